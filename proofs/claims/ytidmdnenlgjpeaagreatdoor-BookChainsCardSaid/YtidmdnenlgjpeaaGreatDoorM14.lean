/-
  Chains: the search, plain part.
-/
import Derived.Test.YtidmdnenlgjpeaaGreatDoorM13
import Derived.Test.YtidmdnenlgjpeaaGreatDoorM8
import Derived.Test.YtidmdnenlgjpeaaGreatDoorM9
import Derived.Test.YtidmdnenlgjpeaaGreatDoorRows
import Derived.Lib.LaidTab
import Derived.Stop.LaidErr
import Derived.Shelf.Vars

namespace Go.Proofs.Xx
open Go Go.Proofs
set_option linter.unusedSimpArgs false
set_option linter.unusedVariables false
set_option linter.unusedSectionVars false

/-- A chain from x. -/
inductive Pth (r : Rl) (x : List UInt8) : List (List UInt8) → List UInt8 → Prop
  | one : Pth r x [x] x
  | snoc {Q : List (List UInt8)} {w z : List UInt8} (h : Pth r x Q w) (a : spk r w z) : Pth r x (Q ++ [z]) z
theorem Pth.pos {r : Rl} {x y : List UInt8} {Q : List (List UInt8)} (h : Pth r x Q y) : 0 < Q.length := by
  cases h <;> simp
theorem Pth.cons {r : Rl} {z x y : List UInt8} {Q : List (List UInt8)} (a : spk r z x) (h : Pth r x Q y) : Pth r z (z :: Q) y := by
  induction h with
  | one => exact Pth.snoc (.one) a
  | snoc h b ih => exact Pth.snoc ih b
theorem Pth.rev {r : Rl} {x y : List UInt8} {Q : List (List UInt8)} (h : Pth r x Q y) : Pth r y Q.reverse x := by
  induction h with
  | one => exact .one
  | snoc h b ih =>
    rw [List.reverse_append]
    exact ih.cons b.symm
theorem Pth.head {r : Rl} {x y : List UInt8} {Q : List (List UInt8)} (h : Pth r x Q y) : Q.getD 0 default = x := by
  induction h with
  | one => rfl
  | snoc h b ih => rw [gA1 h.pos]; exact ih
theorem Pth.last {r : Rl} {x y : List UInt8} {Q : List (List UInt8)} (h : Pth r x Q y) : Q.getD (Q.length - 1) default = y := by
  cases h with
  | one => rfl
  | snoc h b => rw [List.length_append, List.length_singleton, Nat.add_sub_cancel, gA2 (Nat.le_refl _), Nat.sub_self]; rfl
theorem Pth.adj {r : Rl} {x y : List UInt8} {Q : List (List UInt8)} (h : Pth r x Q y) : ∀ i, i + 1 < Q.length → spk r (Q.getD i default) (Q.getD (i + 1) default) := by
  induction h with
  | one => intro i hi; simp at hi
  | snoc h b ih =>
    rename_i Q w z
    intro i hi
    rw [List.length_append, List.length_singleton] at hi
    rcases Nat.lt_or_ge (i + 1) Q.length with q | q
    · rw [gA1 (by omega), gA1 q]; exact ih i q
    · have e : i = Q.length - 1 := by omega
      have hp := h.pos
      rw [gA1 (by omega), gA2 q, e, h.last, show Q.length - 1 + 1 - Q.length = 0 by omega]
      exact b
/-- Before in the order of words, place by place. -/
def lxl (P Q : List (List UInt8)) : Prop := ∃ k, k < P.length ∧ k < Q.length ∧ (∀ j, j < k → P.getD j default = Q.getD j default) ∧ sLt (P.getD k default) (Q.getD k default)
theorem lxl.snoc {P Q : List (List UInt8)} {a b : List UInt8} (h : lxl P Q) : lxl (P ++ [a]) (Q ++ [b]) := by
  obtain ⟨k, h1, h2, h3, h4⟩ := h
  refine ⟨k, by simp; omega, by simp; omega, fun j hj => ?_, ?_⟩
  · rw [gA1 (by omega), gA1 (by omega)]; exact h3 j hj
  · rw [gA1 h1, gA1 h2]; exact h4
theorem lxl.last {P : List (List UInt8)} {a b : List UInt8} (h : sLt a b) : lxl (P ++ [a]) (P ++ [b]) := by
  refine ⟨P.length, by simp, by simp, fun j hj => ?_, ?_⟩
  · rw [gA1 hj, gA1 hj]
  · rw [gA2 (Nat.le_refl _), gA2 (Nat.le_refl _), Nat.sub_self]; exact h
theorem lxl.trans {P Q R : List (List UInt8)} (h : lxl P Q) (g : lxl Q R) : lxl P R := by
  obtain ⟨k, h1, h2, h3, h4⟩ := h
  obtain ⟨m, g1, g2, g3, g4⟩ := g
  rcases Nat.lt_trichotomy k m with q | q | q
  · exact ⟨k, h1, by omega, fun j hj => (h3 j hj).trans (g3 j (by omega)), by rw [← g3 k q]; exact h4⟩
  · subst q
    exact ⟨k, h1, g2, fun j hj => (h3 j hj).trans (g3 j hj), sLt_trans h4 g4⟩
  · exact ⟨m, by omega, g2, fun j hj => (h3 j (by omega)).trans (g3 j hj), by rw [h3 m q]; exact g4⟩
def lxe (P Q : List (List UInt8)) : Prop := P = Q ∨ lxl P Q
theorem lxe.trans {P Q R : List (List UInt8)} (h : lxe P Q) (g : lxe Q R) : lxe P R := by
  rcases h with rfl | h
  · exact g
  · rcases g with rfl | g
    · exact .inr h
    · exact .inr (h.trans g)
theorem lxe.snoc {P Q : List (List UInt8)} {a : List UInt8} (h : lxe P Q) : lxe (P ++ [a]) (Q ++ [a]) := by
  rcases h with rfl | h
  · exact .inl rfl
  · exact .inr h.snoc
/-- The least of the shortest chains. -/
structure ChainOk (r : Rl) (x y : List UInt8) (P : List (List UInt8)) : Prop where
  pth : Pth r x P y
  sh : ∀ Q, Pth r x Q y → P.length ≤ Q.length
  lx : ∀ Q, Pth r x Q y → P.length = Q.length → lxe P Q
abbrev NMap := List (List UInt8 × List UInt8)
def nmA (mp : NMap) (j : Nat) : List UInt8 := (mp.getD j default).1
/-- The way to the j-th one that is met. -/
def tpth (mp : NMap) (pa : Nat → Nat) (j : Nat) : List (List UInt8) := if h : 0 < j ∧ pa j < j then tpth mp pa (pa j) ++ [nmA mp j] else [nmA mp j]
termination_by j
decreasing_by exact h.2
structure BC (r : Rl) (x : List UInt8) (mp : NMap) (pa : Nat → Nat) : Prop where
  pos : 0 < mp.length
  d0 : nmA mp 0 = x
  f0 : (mp.getD 0 default).2 = []
  kn : ∀ j, j < mp.length → gat r.us (nmA mp j) ≠ none
  nd : (mp.map (·.1)).Nodup
  lt : ∀ j, 0 < j → j < mp.length → pa j < j
  fr : ∀ j, 0 < j → j < mp.length → (mp.getD j default).2 = nmA mp (pa j) ∧ spk r (nmA mp (pa j)) (nmA mp j)
  mo : ∀ j k, 0 < j → j ≤ k → k < mp.length → pa j ≤ pa k
  od : ∀ j k, 0 < j → j < k → k < mp.length → pa j = pa k → sLt (nmA mp j) (nmA mp k)
theorem BC.step {r : Rl} {x : List UInt8} {mp : NMap} {pa : Nat → Nat} (B : BC r x mp pa) {j : Nat} (h0 : 0 < j) (hj : j < mp.length) : tpth mp pa j = tpth mp pa (pa j) ++ [nmA mp j] := by
  rw [tpth, dif_pos ⟨h0, B.lt j h0 hj⟩]
theorem tpth0 (mp : NMap) (pa : Nat → Nat) : tpth mp pa 0 = [nmA mp 0] := by
  rw [tpth, dif_neg (by omega)]
theorem tpth_pos (mp : NMap) (pa : Nat → Nat) (j : Nat) : 0 < (tpth mp pa j).length := by
  rw [tpth]; split <;> simp
theorem tpth_len (mp : NMap) (pa : Nat → Nat) (j : Nat) : (tpth mp pa j).length ≤ j + 1 := by
  induction j using Nat.strongRecOn with
  | _ j ih =>
    rw [tpth]
    split
    · rename_i h
      have := ih _ h.2
      simp; omega
    · simp
theorem BC.pth {r : Rl} {x : List UInt8} {mp : NMap} {pa : Nat → Nat} (B : BC r x mp pa) (j : Nat) (hj : j < mp.length) : Pth r x (tpth mp pa j) (nmA mp j) := by
  induction j using Nat.strongRecOn with
  | _ j ih =>
    rcases Nat.eq_zero_or_pos j with q | q
    · subst q
      rw [tpth0, B.d0]; exact .one
    · rw [B.step q hj]
      have := B.lt j q hj
      exact (ih _ this (by omega)).snoc (B.fr j q hj).2
theorem BC.mono {r : Rl} {x : List UInt8} {mp : NMap} {pa : Nat → Nat} (B : BC r x mp pa) (k : Nat) (hk : k < mp.length) : ∀ j, j ≤ k → (tpth mp pa j).length ≤ (tpth mp pa k).length ∧ ((tpth mp pa j).length = (tpth mp pa k).length → lxe (tpth mp pa j) (tpth mp pa k)) := by
  induction k using Nat.strongRecOn with
  | _ k ih =>
    intro j hj
    rcases Nat.eq_or_lt_of_le hj with q | q
    · subst q; exact ⟨Nat.le_refl _, fun _ => .inl rfl⟩
    · rw [B.step (by omega) hk]
      rcases Nat.eq_zero_or_pos j with z | z
      · subst z
        have := tpth_pos mp pa (pa k)
        rw [tpth0]
        simp
        intro h; rw [h] at this; exact absurd this (by simp)
      · rw [B.step z (by omega)]
        have hl := B.lt k (by omega) hk
        have hm := B.mo j k z hj hk
        obtain ⟨h1, h2⟩ := ih (pa k) hl (by omega) (pa j) hm
        refine ⟨by simp; exact h1, fun e => ?_⟩
        simp only [List.length_append, List.length_singleton] at e
        rcases Nat.eq_or_lt_of_le hm with w | w
        · rw [w]
          exact .inr (.last (B.od j k z q hk w))
        · rcases h2 (by omega) with g | g
          · exfalso
            have g1 := (B.pth (pa j) (by omega)).last
            have g2 := (B.pth (pa k) (by omega)).last
            rw [g, g2] at g1
            refine nodup_ne B.nd w (by simp; omega) ?_
            rw [map_getD (by omega), map_getD (by omega)]
            exact g1.symm
          · exact .inr g.snoc
/-- All of the first h are gone through. -/
structure BI (r : Rl) (x : List UInt8) (mp : NMap) (pa : Nat → Nat) (h : Nat) : Prop where
  c : BC r x mp pa
  le : h ≤ mp.length
  ub : ∀ j, 0 < j → j < mp.length → pa j < h
  cl : ∀ i, i < h → ∀ y, spk r (nmA mp i) y → ∃ j, j < mp.length ∧ nmA mp j = y ∧ (j = 0 ∨ pa j ≤ i)
/-- At the k-th name for the h-th one. -/
structure BJ (r : Rl) (ns : List (List UInt8)) (x : List UInt8) (mp : NMap) (pa : Nat → Nat) (h k : Nat) : Prop where
  c : BC r x mp pa
  lt : h < mp.length
  ub : ∀ j, 0 < j → j < mp.length → pa j ≤ h
  cl : ∀ i, i < h → ∀ y, spk r (nmA mp i) y → ∃ j, j < mp.length ∧ nmA mp j = y ∧ (j = 0 ∨ pa j ≤ i)
  pm : ∀ j, 0 < j → j < mp.length → pa j = h → ∃ m, m < k ∧ nmA mp j = ns.getD m default
  dn : ∀ m, m < k → spk r (nmA mp h) (ns.getD m default) → ∃ j, j < mp.length ∧ nmA mp j = ns.getD m default
theorem BI.one {r : Rl} {x : List UInt8} (hx : gat r.us x ≠ none) : BI r x [(x, [])] (fun _ => 0) 0 := by
  refine ⟨⟨by simp, rfl, rfl, fun j hj => ?_, by simp, fun j h1 h2 => ?_, fun j h1 h2 => ?_, fun j k h1 h2 h3 => Nat.le_refl _, fun j k h1 h2 h3 => ?_⟩, Nat.zero_le _, fun j h1 h2 => ?_, fun i hi => absurd hi (Nat.not_lt_zero _)⟩
  · simp at hj; subst hj; exact hx
  all_goals (simp only [List.length_singleton] at *; omega)
theorem BI.start {r : Rl} {ns : List (List UInt8)} {x : List UInt8} {mp : NMap} {pa : Nat → Nat} {h : Nat} (I : BI r x mp pa h) (hh : h < mp.length) : BJ r ns x mp pa h 0 :=
  ⟨I.c, hh, fun j h1 h2 => Nat.le_of_lt (I.ub j h1 h2), I.cl, fun j h1 h2 e => absurd (I.ub j h1 h2) (by omega), fun m hm => absurd hm (Nat.not_lt_zero _)⟩
theorem BJ.fin {r : Rl} {ns : List (List UInt8)} {x : List UInt8} {mp : NMap} {pa : Nat → Nat} {h : Nat} (J : BJ r ns x mp pa h ns.length) (hns : ∀ y, gat r.us y ≠ none → y ∈ ns) : BI r x mp pa (h + 1) := by
  refine ⟨J.c, J.lt, fun j h1 h2 => Nat.lt_succ_of_le (J.ub j h1 h2), fun i hi y a => ?_⟩
  rcases Nat.lt_or_ge i h with q | q
  · exact J.cl i q y a
  · obtain rfl : i = h := by omega
    obtain ⟨m, m1, m2⟩ := mem_iff_getD.1 (hns y a.kn.2)
    rw [← m2] at a ⊢
    obtain ⟨j, j1, j2⟩ := J.dn m m1 a
    refine ⟨j, j1, j2, ?_⟩
    rcases Nat.eq_zero_or_pos j with z | z
    · exact .inl z
    · exact .inr (J.ub j z j1)
theorem BJ.skip {r : Rl} {ns : List (List UInt8)} {x : List UInt8} {mp : NMap} {pa : Nat → Nat} {h k : Nat} (J : BJ r ns x mp pa h k) (hk : mGet mp (ns.getD k default) ≠ none ∨ ¬ spk r (nmA mp h) (ns.getD k default)) (hm : mGet mp (ns.getD k default) ≠ none → ns.getD k default ∈ mp.map (·.1)) : BJ r ns x mp pa h (k + 1) := by
  refine ⟨J.c, J.lt, J.ub, J.cl, fun j h1 h2 e => ?_, fun m hm2 a => ?_⟩
  · obtain ⟨m, m1, m2⟩ := J.pm j h1 h2 e
    exact ⟨m, by omega, m2⟩
  · rcases Nat.lt_or_ge m k with q | q
    · exact J.dn m q a
    · obtain rfl : m = k := by omega
      rcases hk with hk | hk
      · obtain ⟨j, j1, j2⟩ := mem_iff_getD.1 (hm hk)
        simp only [List.length_map] at j1
        rw [map_getD j1] at j2
        exact ⟨j, j1, j2⟩
      · exact absurd a hk
def paU (pa : Nat → Nat) (n h : Nat) : Nat → Nat := fun j => if j = n then h else pa j
theorem BJ.add {r : Rl} {ns : List (List UInt8)} (hs : SS ns) {x : List UInt8} {mp : NMap} {pa : Nat → Nat} {h k : Nat} (J : BJ r ns x mp pa h k) (hk : k < ns.length) (hn : ns.getD k default ∉ mp.map (·.1)) (ha : spk r (nmA mp h) (ns.getD k default)) : BJ r ns x (mp ++ [(ns.getD k default, nmA mp h)]) (paU pa mp.length h) h (k + 1) := by
  have hl : (mp ++ [(ns.getD k default, nmA mp h)]).length = mp.length + 1 := by simp
  have n1 : ∀ {j}, j < mp.length → nmA (mp ++ [(ns.getD k default, nmA mp h)]) j = nmA mp j := fun hj => by unfold nmA; rw [gA1 hj]
  have n2 : nmA (mp ++ [(ns.getD k default, nmA mp h)]) mp.length = ns.getD k default := by unfold nmA; rw [gA2 (Nat.le_refl _), Nat.sub_self]; rfl
  have p1 : ∀ {j}, j < mp.length → paU pa mp.length h j = pa j := fun hj => if_neg (by omega)
  have p2 : paU pa mp.length h mp.length = h := if_pos rfl
  have hp := J.c.pos
  have hh := J.lt
  refine ⟨⟨by omega, by rw [n1 hp]; exact J.c.d0, by rw [gA1 hp]; exact J.c.f0, fun j hj => ?_, ?_, fun j h1 h2 => ?_, fun j h1 h2 => ?_, fun j i h1 h2 h3 => ?_, fun j i h1 h2 h3 e => ?_⟩, by omega, fun j h1 h2 => ?_, fun i hi y a => ?_, fun j h1 h2 e => ?_, fun m hm a => ?_⟩
  · rw [hl] at hj
    rcases Nat.lt_or_ge j mp.length with q | q
    · rw [n1 q]; exact J.c.kn j q
    · obtain rfl : j = mp.length := by omega
      rw [n2]; exact ha.kn.2
  · rw [List.map_append, List.nodup_append]
    refine ⟨J.c.nd, by simp, fun a h1 b h2 e => ?_⟩
    simp only [List.map_cons, List.map_nil, List.mem_singleton] at h2
    subst e; subst h2; exact hn h1
  · rw [hl] at h2
    rcases Nat.lt_or_ge j mp.length with q | q
    · rw [p1 q]; exact J.c.lt j h1 q
    · obtain rfl : j = mp.length := by omega
      rw [p2]; exact hh
  · rw [hl] at h2
    rcases Nat.lt_or_ge j mp.length with q | q
    · have := J.c.lt j h1 q
      rw [p1 q, n1 q, n1 (by omega), gA1 q]; exact J.c.fr j h1 q
    · obtain rfl : j = mp.length := by omega
      rw [p2, n2, n1 hh, gA2 (Nat.le_refl _), Nat.sub_self]
      exact ⟨rfl, ha⟩
  · rw [hl] at h3
    rcases Nat.lt_or_ge i mp.length with q | q
    · rw [p1 q, p1 (by omega)]; exact J.c.mo j i h1 h2 q
    · obtain rfl : i = mp.length := by omega
      rw [p2]
      rcases Nat.lt_or_ge j mp.length with q2 | q2
      · rw [p1 q2]; exact J.ub j h1 q2
      · obtain rfl : j = mp.length := by omega
        rw [p2]; exact Nat.le_refl _
  · rw [hl] at h3
    rcases Nat.lt_or_ge i mp.length with q | q
    · rw [p1 q, p1 (by omega)] at e
      rw [n1 q, n1 (by omega)]; exact J.c.od j i h1 h2 q e
    · obtain rfl : i = mp.length := by omega
      rw [p2, p1 h2] at e
      rw [n2, n1 h2]
      obtain ⟨m, m1, m2⟩ := J.pm j h1 h2 e
      rw [m2]; exact hs m k m1 hk
  · rw [hl] at h2
    rcases Nat.lt_or_ge j mp.length with q | q
    · rw [p1 q]; exact J.ub j h1 q
    · obtain rfl : j = mp.length := by omega
      rw [p2]; exact Nat.le_refl _
  · rw [n1 (by omega)] at a
    obtain ⟨j, j1, j2, j3⟩ := J.cl i hi y a
    exact ⟨j, by omega, by rw [n1 j1]; exact j2, by rw [p1 j1]; exact j3⟩
  · rw [hl] at h2
    rcases Nat.lt_or_ge j mp.length with q | q
    · rw [p1 q] at e
      rw [n1 q]
      obtain ⟨m, m1, m2⟩ := J.pm j h1 q e
      exact ⟨m, by omega, m2⟩
    · obtain rfl : j = mp.length := by omega
      exact ⟨k, by omega, n2⟩
  · rw [n1 hh] at a
    rcases Nat.lt_or_ge m k with q | q
    · obtain ⟨j, j1, j2⟩ := J.dn m q a
      exact ⟨j, by omega, by rw [n1 j1]; exact j2⟩
    · obtain rfl : m = k := by omega
      exact ⟨mp.length, by omega, n2⟩
theorem BI.all {r : Rl} {x : List UInt8} {mp : NMap} {pa : Nat → Nat} {h : Nat} (I : BI r x mp pa h) {Q : List (List UInt8)} {z : List UInt8} (hq : Pth r x Q z) : (∃ i, i < mp.length ∧ nmA mp i = z ∧ (tpth mp pa i).length ≤ Q.length ∧ ((tpth mp pa i).length = Q.length → lxe (tpth mp pa i) Q)) ∨ (h < mp.length ∧ (tpth mp pa h).length < Q.length) := by
  induction hq with
  | one => exact .inl ⟨0, I.c.pos, I.c.d0, by rw [tpth0]; exact Nat.le_refl _, fun _ => .inl (by rw [tpth0, I.c.d0])⟩
  | snoc g b ih =>
    rename_i Q w z
    have hQ := g.pos
    rcases ih with ⟨i, i1, i2, i3, i4⟩ | ⟨h1, h2⟩
    · rcases Nat.lt_or_ge i h with q | q
      · rw [← i2] at b
        obtain ⟨j, j1, j2, j3⟩ := I.cl i q z b
        refine .inl ⟨j, j1, j2, ?_⟩
        rcases Nat.eq_zero_or_pos j with e | e
        · subst e
          rw [tpth0]; simp
          intro h; rw [h] at hQ; simp at hQ
        · have j3 := j3.resolve_left (by omega)
          rw [I.c.step e j1, j2]
          obtain ⟨m1, m2⟩ := I.c.mono i i1 (pa j) j3
          simp only [List.length_append, List.length_singleton]
          refine ⟨by omega, fun e => ?_⟩
          exact ((m2 (by omega)).trans (i4 (by omega))).snoc
      · have := (I.c.mono i i1 h q).1
        exact .inr ⟨by omega, by simp; omega⟩
    · exact .inr ⟨h1, by simp; omega⟩
theorem BI.found {r : Rl} {x : List UInt8} {mp : NMap} {pa : Nat → Nat} {h : Nat} (I : BI r x mp pa h) (hh : h < mp.length) : ChainOk r x (nmA mp h) (tpth mp pa h) := by
  have key : ∀ Q, Pth r x Q (nmA mp h) → (tpth mp pa h).length ≤ Q.length ∧ ((tpth mp pa h).length = Q.length → lxe (tpth mp pa h) Q) := fun Q hq => by
    rcases I.all hq with ⟨i, i1, i2, i3, i4⟩ | ⟨h1, h2⟩
    · have : i = h := by
        rcases Nat.lt_trichotomy i h with q | q | q
        · exact absurd (by rw [map_getD i1, map_getD hh]; exact i2) (nodup_ne I.c.nd q (by simp; omega))
        · exact q
        · exact absurd (by rw [map_getD i1, map_getD hh]; exact i2.symm) (nodup_ne I.c.nd q (by simp; omega))
      subst this
      exact ⟨i3, i4⟩
    · exact ⟨by omega, fun e => by omega⟩
  exact ⟨I.c.pth h hh, fun Q hq => (key Q hq).1, fun Q hq => (key Q hq).2⟩
theorem BI.lost {r : Rl} {x y : List UInt8} {mp : NMap} {pa : Nat → Nat} (I : BI r x mp pa mp.length) (hy : ∀ i, i < mp.length → nmA mp i ≠ y) (Q : List (List UInt8)) : ¬ Pth r x Q y := fun hq => by
  rcases I.all hq with ⟨i, i1, i2, i3, i4⟩ | ⟨h1, h2⟩
  · exact hy i i1 i2
  · omega
theorem mIdx_nd : ∀ {l : NMap} (hn : (l.map (·.1)).Nodup) {j : Nat} (hj : j < l.length) (i : Nat), mIdx (nmA l j) l i = some (i + j, (l.getD j default).2)
  | [], hn, j, hj, i => absurd hj (Nat.not_lt_zero _)
  | p :: l, hn, 0, hj, i => by
    unfold mIdx
    rw [if_pos (by rfl)]; rfl
  | p :: l, hn, j + 1, hj, i => by
    have h2 := List.nodup_cons.1 hn
    have hj' : j < l.length := by simp at hj; exact hj
    unfold mIdx
    rw [if_neg ?_]
    · show mIdx (nmA l j) l (i + 1) = _
      rw [mIdx_nd h2.2 hj' (i + 1)]
      show some _ = some _
      congr 2; omega
    · intro e
      refine h2.1 ?_
      show p.1 ∈ l.map (·.1)
      rw [show p.1 = nmA l j from e]
      exact List.mem_map.2 ⟨_, mem_getD hj', rfl⟩
theorem mGet_nd {l : NMap} (hn : (l.map (·.1)).Nodup) {j : Nat} (hj : j < l.length) : mGet l (nmA l j) = some (l.getD j default).2 := by
  unfold mGet
  rw [mIdx_nd hn hj 0]; rfl
theorem BC.len {r : Rl} (H : RO r) {x : List UInt8} {mp : NMap} {pa : Nat → Nat} (B : BC r x mp pa) : mp.length ≤ 64 := by
  have := nodup_leM B.nd (m := r.us.map (·.name)) fun y hy => by
    obtain ⟨j, j1, j2⟩ := mem_iff_getD.1 hy
    simp only [List.length_map] at j1
    rw [map_getD j1] at j2
    exact gat_name (j2 ▸ B.kn j j1)
  have := H.l64
  simp at *; omega
/-- What the law asks of chains. -/
theorem ChainOk.back {r : Rl} {x y : List UInt8} {P R : List (List UInt8)} (h : ChainOk r x y P) (g : ChainOk r y x R) : P.length = R.length := by
  have h1 := h.sh _ g.pth.rev
  have h2 := g.sh _ h.pth.rev
  simp at h1 h2
  omega
theorem ChainOk.near {r : Rl} {x z y : List UInt8} {P E : List (List UInt8)} (h : ChainOk r x y P) (g : ChainOk r z y E) (a : spk r x z) : P.length ≤ E.length + 1 := by
  have h1 := h.sh _ (g.pth.cons a)
  simpa using h1
theorem ChainOk.self {r : Rl} {x : List UInt8} {P : List (List UInt8)} (h : ChainOk r x x P) : P.length = 1 := by
  have h1 := h.sh _ .one
  have := h.pth.pos
  simp at h1; omega
end Go.Proofs.Xx

/-
  An odd ring: plain law.
-/
namespace Go.Proofs.Xx
set_option linter.unusedSimpArgs false
set_option linter.unusedVariables false
set_option linter.unusedSectionVars false

/-- An odd ring of feuds. -/
structure RingOk (r : Rl) (R : List (List UInt8)) : Prop where
  odd : R.length % 2 = 1
  three : 3 ≤ R.length
  nd : ∀ i j, i < j → j < R.length → R.getD i default ≠ R.getD j default
  adj : ∀ i, i < R.length → adj r 2 (R.getD i default) (R.getD ((i + 1) % R.length) default)
/-- Who led to whom, and how far from the first one. -/
structure Tree (r : Rl) (fr : List UInt8 → List UInt8) (dep : List UInt8 → Nat) (met : List UInt8 → Prop) : Prop where
  up : ∀ x, met x → 0 < dep x → met (fr x) ∧ dep (fr x) + 1 = dep x ∧ Xx.adj r 2 (fr x) x
def anc (fr : List UInt8 → List UInt8) (x : List UInt8) : Nat → List UInt8
  | 0 => x
  | k + 1 => fr (anc fr x k)
theorem anc_ok {r : Rl} {fr : List UInt8 → List UInt8} {dep : List UInt8 → Nat} {met : List UInt8 → Prop} (T : Tree r fr dep met) {x : List UInt8} (hx : met x) : ∀ {k : Nat}, k ≤ dep x → met (anc fr x k) ∧ dep (anc fr x k) + k = dep x
  | 0, _ => ⟨hx, rfl⟩
  | k + 1, h => by
    obtain ⟨h1, h2⟩ := anc_ok T hx (k := k) (by omega)
    obtain ⟨g1, g2, -⟩ := T.up _ h1 (by omega)
    exact ⟨g1, by show dep (fr (anc fr x k)) + (k + 1) = dep x; omega⟩
def ringL (fr : List UInt8 → List UInt8) (x y : List UInt8) (n : Nat) : List (List UInt8) := (List.range n).map (anc fr x) ++ [anc fr x n] ++ ((List.range n).map (anc fr y)).reverse
end Go.Proofs.Xx

/-
  An odd ring, found.
-/
namespace Go.Proofs.Xx
open Go Go.Proofs
set_option linter.unusedSimpArgs false
set_option linter.unusedVariables false
set_option linter.unusedSectionVars false
set_option maxRecDepth 100000
set_option maxHeartbeats 4000000

/-- A spot: its camp and who led to it. -/
def eSp (x : Int × List UInt8) : Value := .agg #[.int .i64 x.1, str x.2]
abbrev CMap := List (List UInt8 × (Int × List UInt8))
def frM (mp : CMap) (x : List UInt8) : List UInt8 := match mGet mp x with | some p => p.2 | none => []
def cmM (mp : CMap) (x : List UInt8) : Int := match mGet mp x with | some p => p.1 | none => 0
variable [Flag]
end Go.Proofs.Xx

/-
  Camps: the search, plain part.
-/
namespace Go.Proofs.Xx
open Go Go.Proofs
set_option linter.unusedSimpArgs false
set_option linter.unusedVariables false
set_option linter.unusedSectionVars false

theorem frM_put {mp : CMap} {f : List UInt8} {p : Int × List UInt8} (x : List UInt8) : frM (mPut mp f p) x = if x = f then p.2 else frM mp x := by
  unfold frM; rw [mGet_put]
  by_cases e : x = f
  · rw [if_pos e, if_pos e]
  · rw [if_neg e, if_neg e]
theorem cmM_put {mp : CMap} {f : List UInt8} {p : Int × List UInt8} (x : List UInt8) : cmM (mPut mp f p) x = if x = f then p.1 else cmM mp x := by
  unfold cmM; rw [mGet_put]
  by_cases e : x = f
  · rw [if_pos e, if_pos e]
  · rw [if_neg e, if_neg e]
theorem met_put {mp : CMap} {f : List UInt8} {p : Int × List UInt8} (x : List UInt8) : mGet (mPut mp f p) x ≠ none ↔ (x = f ∨ mGet mp x ≠ none) := by
  rw [mGet_put]
  by_cases e : x = f <;> simp [e]
theorem put_new {mp : CMap} {f : List UInt8} {p : Int × List UInt8} (h : mGet mp f = none) : mPut mp f p = mp ++ [(f, p)] := by
  unfold mPut; rw [mGet_none h]
theorem mIdx_mem {α : Type} {k : List UInt8} : ∀ {l : List (List UInt8 × α)} {i : Nat}, mIdx k l i ≠ none ↔ k ∈ l.map (·.1)
  | [], i => by simp [mIdx]
  | p :: r, i => by
    unfold mIdx
    by_cases e : p.1 = k
    · simp [e]
    · rw [if_neg e, mIdx_mem (l := r)]
      rw [List.map_cons, List.mem_cons]
      exact ⟨.inr, fun q => q.resolve_left fun z => e z.symm⟩
theorem met_mem {mp : CMap} {x : List UInt8} : mGet mp x ≠ none ↔ x ∈ mp.map (·.1) := by
  rw [← mIdx_mem (l := mp) (i := 0)]
  unfold mGet
  cases mIdx x mp 0 <;> simp
/-- What is met: a forest with camps by depth. -/
structure CI (r : Rl) (mp : CMap) (dep : List UInt8 → Nat) : Prop where
  tree : Tree r (frM mp) dep (fun x => mGet mp x ≠ none)
  camp : ∀ x, mGet mp x ≠ none → cmM mp x = ((dep x % 2 : Nat) : Int)
  kn : ∀ x, mGet mp x ≠ none → gat r.us x ≠ none
  nd : (mp.map (·.1)).Nodup
  dl : ∀ x, mGet mp x ≠ none → dep x < mp.length
def depU (dep : List UInt8 → Nat) (f : List UInt8) (d : Nat) : List UInt8 → Nat := fun x => if x = f then d else dep x
theorem CI.len {r : Rl} (H : RO r) {mp : CMap} {dep : List UInt8 → Nat} (I : CI r mp dep) : mp.length ≤ 64 := by
  have := nodup_leM I.nd (m := r.us.map (·.name)) fun x hx => gat_name (I.kn x (met_mem.2 hx))
  have := H.l64
  simp at *; omega
theorem CI.put {r : Rl} {mp : CMap} {dep : List UInt8 → Nat} (I : CI r mp dep) {f n : List UInt8} {c : Int} {d : Nat} (hf : mGet mp f = none) (hk : gat r.us f ≠ none) (h : (d = 0 ∧ c = 0) ∨ (mGet mp n ≠ none ∧ d = dep n + 1 ∧ adj r 2 n f ∧ c = 1 - cmM mp n)) : CI r (mPut mp f (c, n)) (depU dep f d) := by
  refine ⟨⟨fun x hx h0 => ?_⟩, fun x hx => ?_, fun x hx => ?_, ?_, fun x hx => ?_⟩
  · rw [met_put] at hx
    rw [met_put, frM_put]
    unfold depU at h0 ⊢
    by_cases e : x = f
    · subst e
      rw [if_pos rfl] at h0
      rw [if_pos rfl, if_pos rfl]
      rcases h with ⟨h1, h2⟩ | ⟨h1, h2, h3, h4⟩
      · omega
      · have hn : n ≠ x := fun q => h1 (q ▸ hf)
        exact ⟨.inr h1, by rw [if_neg hn]; exact h2.symm, h3⟩
    · rw [if_neg e] at h0
      rw [if_neg e, if_neg e]
      obtain ⟨g1, g2, g3⟩ := I.tree.up x (hx.resolve_left e) h0
      have hn : frM mp x ≠ f := fun q => g1 (q ▸ hf)
      exact ⟨.inr g1, by rw [if_neg hn]; exact g2, g3⟩
  · rw [met_put] at hx
    rw [cmM_put]
    unfold depU
    by_cases e : x = f
    · rw [if_pos e, if_pos e]
      rcases h with ⟨h1, h2⟩ | ⟨h1, h2, h3, h4⟩
      · rw [h1]; exact h2
      · show c = _
        rw [h4, I.camp n h1, h2]; omega
    · rw [if_neg e, if_neg e]; exact I.camp x (hx.resolve_left e)
  · rw [met_put] at hx
    rcases hx with e | e
    · rw [e]; exact hk
    · exact I.kn x e
  · rw [put_new hf, List.map_append, List.nodup_append]
    refine ⟨I.nd, by simp, fun a ha b hb e => ?_⟩
    simp only [List.map_cons, List.map_nil, List.mem_singleton] at hb
    exact met_mem.2 ha (e ▸ hb ▸ hf)
  · rw [met_put] at hx
    unfold depU
    rw [put_new hf, List.length_append, List.length_singleton]
    by_cases e : x = f
    · rw [if_pos e]
      rcases h with ⟨h1, h2⟩ | ⟨h1, h2, h3, h4⟩
      · omega
      · have := I.dl n h1; omega
    · rw [if_neg e]
      have := I.dl x (hx.resolve_left e); omega
theorem anc_succ (fr : List UInt8 → List UInt8) (x : List UInt8) : ∀ k, anc fr x (k + 1) = anc fr (fr x) k
  | 0 => rfl
  | k + 1 => congrArg fr (anc_succ fr x k)
theorem CI.anc {r : Rl} {mp : CMap} {dep : List UInt8 → Nat} (I : CI r mp dep) {f : List UInt8} {p : Int × List UInt8} (hf : mGet mp f = none) {x : List UInt8} (hx : mGet mp x ≠ none) : ∀ {k : Nat}, k ≤ dep x → Xx.anc (frM (mPut mp f p)) x k = Xx.anc (frM mp) x k
  | 0, _ => rfl
  | k + 1, h => by
    show frM _ (Xx.anc _ x k) = frM _ (Xx.anc _ x k)
    rw [I.anc hf hx (by omega), frM_put, if_neg]
    intro q
    have := (anc_ok I.tree hx (k := k) (by omega)).1
    exact this (q ▸ hf)
def gnm (r : Rl) (j : Nat) : List UInt8 := (r.us.getD j default).name
/-- Between two searches. -/
structure OI (r : Rl) (i : Nat) (mp : CMap) (dep : List UInt8 → Nat) : Prop where
  ci : CI r mp dep
  cl : ∀ x, mGet mp x ≠ none → ∀ y, adj r 2 x y → mGet mp y ≠ none ∧ cmM mp y ≠ cmM mp x
  gm : ∀ j, j < i → mGet mp (gnm r j) ≠ none
  z : ∀ j, j < i → cmM mp (gnm r j) = 0 ∨ ∃ k, k < j ∧ Rch r 2 (gnm r k) (gnm r j)
  rc : ∀ x, mGet mp x ≠ none → ∃ k, k < i ∧ Rch r 2 (gnm r k) x
/-- In the search from the i-th guest: O is what was met before, q the line. -/
structure SI (r : Rl) (i : Nat) (O : List UInt8 → Prop) (mp : CMap) (dep : List UInt8 → Nat) (q : List (List UInt8)) : Prop where
  ci : CI r mp dep
  om : ∀ x, O x → mGet mp x ≠ none
  oc : ∀ x, O x → ∀ y, adj r 2 x y → O y ∧ cmM mp y ≠ cmM mp x
  gm : ∀ j, j ≤ i → mGet mp (gnm r j) ≠ none
  z : ∀ j, j ≤ i → cmM mp (gnm r j) = 0 ∨ ∃ k, k < j ∧ Rch r 2 (gnm r k) (gnm r j)
  orc : ∀ x, O x → ∃ k, k < i ∧ Rch r 2 (gnm r k) x
  rt : ∀ x, mGet mp x ≠ none → ¬ O x → Xx.anc (frM mp) x (dep x) = gnm r i ∧ Rch r 2 (gnm r i) x
  qm : ∀ x ∈ q, mGet mp x ≠ none ∧ ¬ O x
  qs : ∀ a b, a < b → b < q.length → dep (q.getD a default) ≤ dep (q.getD b default)
  qd : ∀ x ∈ q, dep x ≤ dep (q.getD 0 default) + 1
  dn : ∀ x, mGet mp x ≠ none → ¬ O x → x ∉ q → (q ≠ [] → dep x ≤ dep (q.getD 0 default)) ∧ ∀ y, adj r 2 x y → mGet mp y ≠ none ∧ cmM mp y ≠ cmM mp x
  ql : q.length ≤ mp.length
theorem OI.root {r : Rl} {i : Nat} {mp : CMap} {dep : List UInt8 → Nat} (I : OI r i mp dep) (hs : mGet mp (gnm r i) = none) (hk : gat r.us (gnm r i) ≠ none) : SI r i (fun x => mGet mp x ≠ none) (mPut mp (gnm r i) (0, [])) (depU dep (gnm r i) 0) [gnm r i] := by
  have nm : ∀ {x}, mGet mp x ≠ none → x ≠ gnm r i := fun hx q => hx (q ▸ hs)
  refine ⟨I.ci.put hs hk (.inl ⟨rfl, rfl⟩), fun x hx => (met_put x).2 (.inr hx), fun x hx y a => ?_, fun j hj => ?_, fun j hj => ?_, I.rc, fun x hx hn => ?_, fun x hx => ?_, fun a b h1 h2 => ?_, fun x hx => ?_, fun x hx h1 h2 => ?_, ?_⟩
  · obtain ⟨h1, h2⟩ := I.cl x hx y a
    rw [cmM_put, cmM_put, if_neg (nm h1), if_neg (nm hx)]
    exact ⟨h1, h2⟩
  · rw [met_put]
    rcases Nat.lt_or_ge j i with q | q
    · exact .inr (I.gm j q)
    · obtain rfl : j = i := by omega
      exact .inl rfl
  · rw [cmM_put]
    rcases Nat.lt_or_ge j i with q | q
    · rw [if_neg (nm (I.gm j q))]; exact I.z j q
    · obtain rfl : j = i := by omega
      exact .inl (if_pos rfl)
  · have e := ((met_put x).1 hx).resolve_right hn
    subst e
    have : depU dep (gnm r i) 0 (gnm r i) = 0 := if_pos rfl
    rw [this]
    exact ⟨rfl, .refl⟩
  · rw [List.mem_singleton] at hx
    subst hx
    exact ⟨(met_put _).2 (.inl rfl), fun q => q hs⟩
  · rw [List.length_singleton] at h2; omega
  · rw [List.mem_singleton] at hx
    subst hx
    exact Nat.le_succ _
  · exact absurd (List.mem_singleton.2 (((met_put x).1 hx).resolve_right h1)) h2
  · rw [put_new hs]; simp
theorem getD0_app {l : List (List UInt8)} {x : List UInt8} (h : l ≠ []) : (l ++ [x]).getD 0 default = l.getD 0 default := by
  cases l with
  | nil => exact absurd rfl h
  | cons y l => rfl
theorem SI.add {r : Rl} {i : Nat} {O : List UInt8 → Prop} {mp : CMap} {dep : List UInt8 → Nat} {q : List (List UInt8)} (I : SI r i O mp dep q) (hq : q ≠ []) {n f : List UInt8} (hn : q.getD 0 default = n) (hf : mGet mp f = none) (hk : gat r.us f ≠ none) (ha : adj r 2 n f) : SI r i O (mPut mp f (1 - cmM mp n, n)) (depU dep f (dep n + 1)) (q ++ [f]) := by
  have hn2 : n ∈ q := by
    rw [← hn]; exact mem_getD (List.length_pos_iff.2 hq)
  obtain ⟨nm, no⟩ := I.qm n hn2
  have ne : ∀ {x}, mGet mp x ≠ none → x ≠ f := fun hx e => hx (e ▸ hf)
  have du : ∀ {x}, mGet mp x ≠ none → depU dep f (dep n + 1) x = dep x := fun hx => if_neg (ne hx)
  have duf : depU dep f (dep n + 1) f = dep n + 1 := if_pos rfl
  have fO : ¬ O f := fun h => I.om f h hf
  refine ⟨I.ci.put hf hk (.inr ⟨nm, rfl, ha, rfl⟩), fun x hx => (met_put x).2 (.inr (I.om x hx)), fun x hx y a => ?_, fun j hj => (met_put _).2 (.inr (I.gm j hj)), fun j hj => ?_, I.orc, fun x hx hn => ?_, fun x hx => ?_, fun a b h1 h2 => ?_, fun x hx => ?_, fun x hx h1 h2 => ?_, ?_⟩
  · obtain ⟨h1, h2⟩ := I.oc x hx y a
    rw [cmM_put, cmM_put, if_neg (ne (I.om _ h1)), if_neg (ne (I.om _ hx))]
    exact ⟨h1, h2⟩
  · rw [cmM_put, if_neg (ne (I.gm j hj))]; exact I.z j hj
  · rw [met_put] at hx
    by_cases e : x = f
    · subst e
      rw [duf, anc_succ, frM_put, if_pos rfl]
      show Xx.anc _ n (dep n) = _ ∧ _
      rw [I.ci.anc hf nm (Nat.le_refl _)]
      obtain ⟨h1, h2⟩ := I.rt n nm no
      exact ⟨h1, h2.step ha⟩
    · have hx := hx.resolve_left e
      rw [du hx, I.ci.anc hf hx (Nat.le_refl _)]
      exact I.rt x hx hn
  · rw [met_put]
    rcases List.mem_append.1 hx with h | h
    · exact ⟨.inr (I.qm x h).1, (I.qm x h).2⟩
    · rw [List.mem_singleton] at h
      exact ⟨.inl h, h ▸ fO⟩
  · rw [List.length_append, List.length_singleton] at h2
    rw [gA1 (show a < q.length by omega), du (I.qm _ (mem_getD (show a < q.length by omega))).1]
    rcases Nat.lt_or_ge b q.length with h | h
    · rw [gA1 h, du (I.qm _ (mem_getD h)).1]; exact I.qs a b h1 h
    · rw [gA2 h, show b - q.length = 0 by omega]
      show _ ≤ depU _ _ _ f
      rw [duf]
      have := I.qd _ (mem_getD (show a < q.length by omega))
      rw [hn] at this; exact this
  · rw [getD0_app hq, hn, du nm]
    rcases List.mem_append.1 hx with h | h
    · rw [du (I.qm x h).1, ← hn]; exact I.qd x h
    · rw [List.mem_singleton.1 h, duf]; exact Nat.le_refl _
  · rw [List.mem_append, List.mem_singleton, not_or] at h2
    have hx := ((met_put x).1 hx).resolve_left h2.2
    obtain ⟨g1, g2⟩ := I.dn x hx h1 h2.1
    rw [getD0_app hq, hn, du nm, du hx, ← hn]
    refine ⟨fun _ => g1 hq, fun y a => ?_⟩
    obtain ⟨k1, k2⟩ := g2 y a
    rw [cmM_put, cmM_put, if_neg (ne k1), if_neg (ne hx)]
    exact ⟨(met_put y).2 (.inr k1), k2⟩
  · have := I.ql
    rw [put_new hf]; simp; exact this
/-- The head of the line is done. -/
theorem SI.pop {r : Rl} {i : Nat} {O : List UInt8 → Prop} {mp : CMap} {dep : List UInt8 → Nat} {n : List UInt8} {q : List (List UInt8)} (I : SI r i O mp dep (n :: q)) (hd : ∀ y, adj r 2 n y → mGet mp y ≠ none ∧ cmM mp y ≠ cmM mp n) : SI r i O mp dep q := by
  have hq0 : q ≠ [] → dep n ≤ dep (q.getD 0 default) := fun hq => by
    have := I.qs 0 1 (by omega) (by have := List.length_pos_iff.2 hq; simp; omega)
    exact this
  refine ⟨I.ci, I.om, I.oc, I.gm, I.z, I.orc, I.rt, fun x hx => I.qm x (.tail _ hx), fun a b h1 h2 => I.qs (a + 1) (b + 1) (by omega) (by simp; omega), fun x hx => ?_, fun x hx h1 h2 => ?_, by have := I.ql; simp at this; omega⟩
  · have h1 : dep x ≤ dep n + 1 := I.qd x (.tail _ hx)
    have h2 := hq0 (List.ne_nil_of_mem hx)
    omega
  · by_cases e : x = n
    · subst e
      exact ⟨hq0, hd⟩
    · obtain ⟨g1, g2⟩ := I.dn x hx h1 (by simp [e, h2])
      refine ⟨fun hq => ?_, g2⟩
      have h3 : dep x ≤ dep n := g1 (by simp)
      have := hq0 hq
      omega
theorem SI.fin {r : Rl} {i : Nat} {O : List UInt8 → Prop} {mp : CMap} {dep : List UInt8 → Nat} (I : SI r i O mp dep []) : OI r (i + 1) mp dep := by
  refine ⟨I.ci, fun x hx y a => ?_, fun j hj => I.gm j (by omega), fun j hj => I.z j (by omega), fun x hx => ?_⟩
  · by_cases h : O x
    · obtain ⟨h1, h2⟩ := I.oc x h y a
      exact ⟨I.om y h1, h2⟩
    · exact (I.dn x hx h (by simp)).2 y a
  · by_cases h : O x
    · obtain ⟨k, h1, h2⟩ := I.orc x h
      exact ⟨k, by omega, h2⟩
    · exact ⟨i, by omega, (I.rt x hx h).2⟩
theorem OI.skip {r : Rl} {i : Nat} {mp : CMap} {dep : List UInt8 → Nat} (I : OI r i mp dep) (h : mGet mp (gnm r i) ≠ none) : OI r (i + 1) mp dep := by
  refine ⟨I.ci, I.cl, fun j hj => ?_, fun j hj => ?_, fun x hx => ?_⟩
  · rcases Nat.lt_or_ge j i with q | q
    · exact I.gm j q
    · obtain rfl : j = i := by omega
      exact h
  · rcases Nat.lt_or_ge j i with q | q
    · exact I.z j q
    · obtain rfl : j = i := by omega
      exact .inr (I.rc _ h)
  · obtain ⟨k, h1, h2⟩ := I.rc x hx
    exact ⟨k, by omega, h2⟩
/-- Two enemies in one camp. -/
theorem SI.clash {r : Rl} (H : RO r) {i : Nat} {O : List UInt8 → Prop} {mp : CMap} {dep : List UInt8 → Nat} {q : List (List UInt8)} (I : SI r i O mp dep q) (hq : q ≠ []) {n f : List UInt8} (hn : q.getD 0 default = n) (hf : mGet mp f ≠ none) (ha : adj r 2 n f) (hc : cmM mp f = cmM mp n) : mGet mp n ≠ none ∧ dep n = dep f ∧ n ≠ f ∧ Xx.anc (frM mp) n (dep n) = Xx.anc (frM mp) f (dep n) ∧ dep n ≤ 64 := by
  have hn2 : n ∈ q := by
    rw [← hn]; exact mem_getD (List.length_pos_iff.2 hq)
  obtain ⟨nm, no⟩ := I.qm n hn2
  have fO : ¬ O f := fun h => no (I.oc f h n ha.symm).1
  have fq : f ∈ q := by
    apply Classical.byContradiction
    intro h
    exact ((I.dn f hf fO h).2 n ha.symm).2 hc.symm
  have h1 := I.qd f fq
  have h2 : dep (q.getD 0 default) ≤ dep f := by
    obtain ⟨j, j1, j2⟩ := mem_iff_getD.1 fq
    rcases Nat.eq_zero_or_pos j with e | e
    · subst e; rw [j2]; exact Nat.le_refl _
    · have := I.qs 0 j e j1
      rw [j2] at this; exact this
  rw [hn] at h1 h2
  have h3 := I.ci.camp f hf
  have h4 := I.ci.camp n nm
  rw [hc, h4] at h3
  have hd : dep n = dep f := by omega
  have hl := I.ci.len H
  have := I.ci.dl n nm
  refine ⟨nm, hd, (adj_known H ha).2.2, ?_, by omega⟩
  rw [(I.rt n nm no).1, hd, (I.rt f hf fO).1]
/-- Two camps. -/
structure CampOk (r : Rl) (cs : List Int) : Prop where
  len : cs.length = r.us.length
  b : ∀ i, i < cs.length → cs.getD i default = 0 ∨ cs.getD i default = 1
  ne : ∀ i j, i < cs.length → j < cs.length → adj r 2 (gnm r i) (gnm r j) → cs.getD i default ≠ cs.getD j default
  z : ∀ j, j < cs.length → cs.getD j default = 0 ∨ ∃ k, k < j ∧ Rch r 2 (gnm r k) (gnm r j)
theorem OI.camps {r : Rl} {mp : CMap} {dep : List UInt8 → Nat} (I : OI r r.us.length mp dep) : CampOk r ((List.range r.us.length).map fun i => cmM mp (gnm r i)) := by
  have g : ∀ i, i < r.us.length → ((List.range r.us.length).map fun i => cmM mp (gnm r i)).getD i default = cmM mp (gnm r i) := fun i hi => by
    rw [List.getD_eq_getElem?_getD]; simp [hi]
  refine ⟨by simp, fun i hi => ?_, fun i j hi hj a => ?_, fun j hj => ?_⟩
  · simp at hi
    rw [g i hi, I.ci.camp _ (I.gm i hi)]; omega
  · simp at hi hj
    rw [g i hi, g j hj]
    exact fun q => (I.cl _ (I.gm i hi) _ a).2 q.symm
  · simp at hj
    rw [g j hj]; exact I.z j hj
end Go.Proofs.Xx

/-
  Camps.
-/
namespace Go.Proofs.Xx
open Go Go.Proofs
set_option linter.unusedSimpArgs false
set_option linter.unusedVariables false
set_option linter.unusedSectionVars false
set_option maxRecDepth 100000
set_option maxHeartbeats 4000000

theorem Hs.one_ {α : Type} {h0 h : AH} {u : Value} {e : TypeId} {z : Nat} {enc : α → List Value} {x : α} {rs : List Rs} (S : Hs h0 h (.sl u e z eRaw [enc x] :: rs)) : Hs h0 h (.sl u e z enc [x] :: rs) := by
  obtain ⟨fp, k1, k2, k3⟩ := S.sep
  refine ⟨S.ext, fp, ?_, k2, k3⟩
  rcases k1 with ⟨q1, q2⟩ | ⟨b, o, cc, slk, cap, h1, h2, h3, h4, h5⟩
  · cases q2
  · exact .inr ⟨b, o, cc, slk, cap, h1, h2, h3, (by simpa [eRaw] using h4), h5⟩
variable [Flag]
end Go.Proofs.Xx

/-
  Chain.
-/
namespace Go.Proofs.Xx
open Go Go.Proofs
set_option linter.unusedSimpArgs false
set_option linter.unusedVariables false
set_option linter.unusedSectionVars false
set_option maxRecDepth 100000
set_option maxHeartbeats 4000000

theorem drop_get0 {mp : NMap} {h : Nat} : ((mp.map (·.1)).drop h).getD 0 default = nmA mp h := by
  unfold nmA
  rw [List.getD_eq_getElem?_getD, List.getD_eq_getElem?_getD, List.getElem?_drop, List.getElem?_map, Nat.add_zero]
  cases mp[h]? <;> rfl
theorem mGet_mem {α : Type} {mp : List (List UInt8 × α)} {x : List UInt8} : mGet mp x ≠ none ↔ x ∈ mp.map (·.1) := by
  rw [← mIdx_mem (l := mp) (i := 0)]
  unfold mGet
  cases mIdx x mp 0 <;> simp
theorem mPut_new {α : Type} {mp : List (List UInt8 × α)} {f : List UInt8} {p : α} (h : mGet mp f = none) : mPut mp f p = mp ++ [(f, p)] := by
  unfold mPut; rw [mGet_none h]
theorem gat_ne {r : Rl} (H : RO r) {n : List UInt8} (h : gat r.us n ≠ none) : n ≠ [] := by
  obtain ⟨g, h1, h2⟩ := gat_mem.1 h
  have := (chkG_ok (H.chk g h1)).1.1
  rw [h2] at this
  intro e
  rw [e] at this
  exact absurd this.1 (by decide)
variable [Flag]
theorem chain_ok {h0 : AH} (w : WfH h0) {p : Nat} {r : Rl} (B : BkRd h0 p r) (H : RO r) (a b : List UInt8) : Fn Tryz.prog Xh 29 [.pointer (some ⟨p, 0, none⟩), str a, str b] h0 (fun u h' => (∃ v P, u = .tuple #[v, .bool true] ∧ Hs h0 h' [.sl v 9 1 eS P] ∧ gat r.us a ≠ none ∧ gat r.us b ≠ none ∧ ChainOk r a b P ∧ P.length ≤ 64) ∨ (u = .tuple #[.slice none 0 0, .bool false] ∧ (gat r.us a ≠ none → gat r.us b ≠ none → ∀ Q, ¬ Pth r a Q b) ∧ Hs h0 h' [])) := by
  have S := Hs.start w
  have B0 := B
  obtain ⟨s, B⟩ := B
  have hb := B.bk
  have h64 := H.l64
  have hmp := B.mp
  refine Fn_K rfl Tryz.func29 rfl rfl ?_
  all_goals (repeat' (first | refine K_seq ?_ | refine k_cond rfl ?_ | refine K_skip ?_ | refine K_exit ?_ | refine k_block ?_ | refine K_scope ?_ | refine K_label ?_ | (refine K_region (id := 0) ?_; refine mv ?_; refine mv ?_; refine KO_nil ?_) | (refine K_region (id := 1) ?_; refine mv ?_)))
  (refine KO_fn rfl rfl rfl rfl rfl ((bnone_ok S.wf (S.ext.get w hb)).mono ?_); rintro _ h ⟨rfl, x⟩) <;> (replace S := S.join0 x; clear x; refine KO_nil ?_)
  all_goals (repeat' (first | refine K_seq ?_ | refine k_cond rfl ?_ | refine K_skip ?_ | refine K_exit ?_ | refine k_block ?_ | refine K_scope ?_ | refine K_label ?_ | (refine K_region (id := 2) ?_; refine mv ?_; refine mv ?_; refine KO_nil ?_) | (refine K_region (id := 3) ?_; refine mv ?_; refine vl ?_; (first | refine vl ?_ | refine fB S ?_ | refine fS S rfl rfl ?_ | refine fA ?_); (first | refine lB S rfl rfl ?_ | refine lES2 S rfl rfl ?_ | refine lEB S ?_ | refine lH S ?_); refine mv ?_)))
  have hmp1 := hmp.ext w S.ext
  refine lkR hmp1 (fun i hi => ?_) (fun hi => ?_)
  all_goals rw [B.at_ a] at hi
  all_goals simp only [okV]
  all_goals (refine mv ?_; refine vl ?_; refine vl ?_; refine mv ?_; refine mv ?_; refine KO_nil ?_)
  all_goals (all_goals (repeat' (first | refine K_seq ?_ | refine k_cond rfl ?_ | refine K_skip ?_ | refine K_exit ?_ | refine k_block ?_ | refine K_scope ?_ | refine K_label ?_ | (refine K_region (id := 4) ?_; refine mv ?_; refine vl ?_; (first | refine vl ?_ | refine fB S ?_ | refine fS S rfl rfl ?_ | refine fA ?_); (first | refine lB S rfl rfl ?_ | refine lES2 S rfl rfl ?_ | refine lEB S ?_ | refine lH S ?_); refine mv ?_))))
  all_goals (refine lkR hmp1 (fun j hj => ?_) (fun hj => ?_))
  all_goals rw [B.at_ b] at hj
  all_goals simp only [okV]
  all_goals (refine mv ?_; refine vl ?_; refine vl ?_; refine mv ?_; refine mv ?_; refine KO_nil ?_)
  all_goals (skip)
  all_goals (all_goals (repeat' (first | refine K_seq ?_ | refine k_cond rfl ?_ | refine K_skip ?_ | refine K_exit ?_ | refine k_block ?_ | refine K_scope ?_ | refine K_label ?_ | (refine K_region (id := 5) ?_; refine mv ?_; refine vl ?_; refine mv ?_; (first | refine off ?_ | refine mv ?_); (first | refine off ?_ | refine vl ?_); refine vl ?_; refine KO_nil ?_) | (refine K_region (id := 6) ?_; refine mv ?_; refine mv ?_; refine KO_nil ?_))))
  rotate_left
  · refine K_ret ⟨_, rfl, ?_⟩
    exact .inr ⟨rfl, fun _ q => absurd (by cases hq : gat r.us b with | none => rfl | some i => rw [hq] at hj; cases hj) q, S.drop⟩
  · refine K_ret ⟨_, rfl, ?_⟩
    exact .inr ⟨rfl, fun q _ => absurd (by cases hq : gat r.us a with | none => rfl | some i => rw [hq] at hi; cases hi) q, S.drop⟩
  · refine K_ret ⟨_, rfl, ?_⟩
    exact .inr ⟨rfl, fun q _ => absurd (by cases hq : gat r.us a with | none => rfl | some i => rw [hq] at hi; cases hi) q, S.drop⟩
  have hak : gat r.us a ≠ none := fun q => by rw [q] at hi; cases hi
  have hbk : gat r.us b ≠ none := fun q => by rw [q] at hj; cases hj
  clear hi hj
  skip
  all_goals (repeat' (first | refine K_seq ?_ | refine k_cond rfl ?_ | refine K_skip ?_ | refine K_exit ?_ | refine k_block ?_ | refine K_scope ?_ | refine K_label ?_ | (refine K_region (id := 7) ?_; refine mv ?_)))
  (refine KO_fn rfl rfl rfl rfl rfl ((bnames_ok S.wf (B0.ext w S.ext) H).mono ?_); rintro un h ⟨ns, x, n1, n2, n3⟩) <;> (replace S := S.join1 x; clear x; refine mv ?_; refine KO_nil ?_)
  all_goals (repeat' (first | refine K_seq ?_ | refine k_cond rfl ?_ | refine K_skip ?_ | refine K_exit ?_ | refine k_block ?_ | refine K_scope ?_ | refine K_label ?_ | (refine K_region (id := 8) ?_; skip)))
  refine mkm (α := List UInt8) str S ?_; clear S; intro m h S; (refine mv ?_)
  refine up (x := ([] : List UInt8)) (key := a) S .here .here (fun h S => ?_) (.inr rfl)
  (refine mv ?_; refine mv ?_; refine KO_nil ?_)
  all_goals (repeat' (first | refine K_seq ?_ | refine k_cond rfl ?_ | refine K_skip ?_ | refine K_exit ?_ | refine k_block ?_ | refine K_scope ?_ | refine K_label ?_ | (refine K_region (id := 9) ?_; refine mv ?_; (refine one 1 S ?_; clear S; intro u h S); refine mv ?_; refine KO_nil ?_)))
  have S := S.one_ (enc := eS) (x := a)
  have S := (show Hs h0 h [.sl u 9 1 eS [a], .mp m str [(a, [])], .sl un 9 1 eS ns] from S)
  refine k_loop (σ := Nat × NMap × (Nat → Nat) × Value) (fun (k, mp, pa, v14) h' => Hs h0 h' [.sl v14 9 1 eS ((mp.map (·.1)).drop k), .mp m str mp, .sl un 9 1 eS ns] ∧ BI r a mp pa k ∧ (∀ i, i < k → nmA mp i ≠ b)) (fun (k, mp, pa, v14) => 65 - k) (fun (k, mp, pa, v14) => [(0, .pointer (some ⟨p, 0, none⟩)), (2, str b), (12, un), (13, .map (some m)), (14, v14)]) (0, [(a, [])], (fun _ => 0), u) (by repeat (first | exact Ks.le_nil _ | refine Ks.le_cons rfl ?_ | refine Ks.le_int ?_)) ?_ ?_
  · exact ⟨S, BI.one hak, fun i hi => absurd hi (Nat.not_lt_zero _)⟩
  clear S
  rintro ⟨k, mp, pa, v14⟩ h ⟨S, I, hno⟩
  have hml := I.c.len H
  have hle := I.le
  have hdl : ((mp.map (·.1)).drop k).length = mp.length - k := by simp
  all_goals (repeat' (first | refine K_seq ?_ | refine k_cond rfl ?_ | refine K_skip ?_ | refine K_exit ?_ | refine K_scope ?_ | refine K_label ?_ | (refine K_region (id := 10) ?_; refine mv ?_; (first | refine lnB S ?_ | refine lnS S rfl rfl ?_); (first | refine cT ?_ | refine cF ?_ | (refine cS ?_ ?_ <;> intro hc)) <;> (refine KO_nil ?_))))
  · have hk : k < mp.length := by omega
    (repeat (refine K_seq ?_)); first | refine K_join1 (σ := NMap × (Nat → Nat) × Value) (fun (mp, pa, v14) h' => Hs h0 h' [.sl v14 9 1 eS ((mp.map (·.1)).drop k), .mp m str mp, .sl un 9 1 eS ns] ∧ BI r a mp pa (k + 1) ∧ (∀ i, i < k + 1 → nmA mp i ≠ b)) (fun (mp, pa, v14) => [(0, .pointer (some ⟨p, 0, none⟩)), (2, str b), (12, un), (13, .map (some m)), (14, v14)]) ?_ ?_ | refine K_cut (σ := NMap × (Nat → Nat) × Value) (fun (mp, pa, v14) h' => Hs h0 h' [.sl v14 9 1 eS ((mp.map (·.1)).drop k), .mp m str mp, .sl un 9 1 eS ns] ∧ BI r a mp pa (k + 1) ∧ (∀ i, i < k + 1 → nmA mp i ≠ b)) (fun (mp, pa, v14) => [(0, .pointer (some ⟨p, 0, none⟩)), (2, str b), (12, un), (13, .map (some m)), (14, v14)]) ?_ ?_
    · all_goals (repeat' (first | refine K_seq ?_ | refine k_cond rfl ?_ | refine K_skip ?_ | refine K_exit ?_ | refine k_block ?_ | refine K_scope ?_ | refine K_label ?_))
      all_goals (repeat' (first | refine K_seq ?_ | refine k_cond rfl ?_ | refine K_skip ?_ | refine K_exit ?_ | refine k_block ?_ | refine K_scope ?_ | refine K_label ?_ | (refine K_region (id := 12) ?_; refine mv ?_; (first | refine ixB S ?_ | refine ixS2 S rfl rfl ?_); (first | refine lB S rfl rfl ?_ | refine lES2 S rfl rfl ?_ | refine lEB S ?_ | refine lH S ?_); refine mv ?_; (refine tS ?_ ?_ <;> intro hc) <;> (refine KO_nil ?_))))
      all_goals (simp only [Int.toNat_zero, drop_get0] at *)
      · all_goals (repeat' (first | refine K_seq ?_ | refine k_cond rfl ?_ | refine K_skip ?_ | refine K_exit ?_ | refine k_block ?_ | refine K_scope ?_ | refine K_label ?_ | (refine K_region (id := 13) ?_; refine mv ?_; refine KO_nil ?_)))
        have S := S.nilS (e := 9) (z := 1) (enc := eS)
        have S := (show Hs h0 h [.sl (.slice none 0 0) 9 1 eS [], .mp m str mp] from S.pick)
        all_goals (repeat' (first | refine K_seq ?_ | refine k_cond rfl ?_ | refine K_skip ?_ | refine K_exit ?_ | refine k_block ?_ | refine K_scope ?_ | refine K_label ?_ | (refine K_region (id := 14) ?_; refine mv ?_; refine mv ?_; refine KO_nil ?_)))
        refine k_loop (σ := Value × List (List UInt8) × List (List UInt8) × List UInt8) (fun (v15, L, T, n) h' => Hs h0 h' [.sl v15 9 1 eS L, .mp m str mp] ∧ tpth mp pa k = T ++ L.reverse ∧ ((T = [] ∧ n = []) ∨ ∃ j, j < mp.length ∧ T = tpth mp pa j ∧ n = nmA mp j)) (fun (v15, L, T, n) => T.length) (fun (v15, L, T, n) => [(13, .map (some m)), (15, v15), (16, str n)]) (.slice none 0 0, [], tpth mp pa k, b) (by repeat (first | exact Ks.le_nil _ | refine Ks.le_cons rfl ?_ | refine Ks.le_int ?_)) ?_ ?_
        · exact ⟨S, by simp, .inr ⟨k, hk, rfl, hc.symm⟩⟩
        clear S
        rintro ⟨v15, L, T, n⟩ h ⟨S, e1, e2⟩
        have htl := tpth_len mp pa k
        have hLl : L.length ≤ 65 := by
          have := congrArg List.length e1
          simp at this; omega
        all_goals (repeat' (first | refine K_seq ?_ | refine k_cond rfl ?_ | refine K_skip ?_ | refine K_exit ?_ | refine k_block ?_ | refine K_scope ?_ | refine K_label ?_ | (refine K_region (id := 15) ?_; refine mv ?_; (refine tS ?_ ?_ <;> intro hc) <;> (refine KO_nil ?_))))
        · have hT : T = [] := by
            rcases e2 with ⟨h1, h2⟩ | ⟨j, j1, j2, j3⟩
            · exact h1
            · exact absurd (j3.symm.trans (by assumption)) (gat_ne H (I.c.kn j j1))
          rw [hT, List.nil_append] at e1
          skip
          all_goals (repeat' (first | refine K_seq ?_ | refine k_cond rfl ?_ | refine K_skip ?_ | refine K_exit ?_ | refine k_block ?_ | refine K_scope ?_ | refine K_label ?_ | (refine K_region (id := 18) ?_; refine mv ?_)))
          (refine KO_fn rfl rfl rfl rfl rfl ((reverse_ok S (by omega)).mono ?_); rintro _ h S) <;> (refine KO_nil ?_)
          all_goals (repeat' (first | refine K_seq ?_ | refine k_cond rfl ?_ | refine K_skip ?_ | refine K_exit ?_ | refine k_block ?_ | refine K_scope ?_ | refine K_label ?_ | (refine K_region (id := 18) ?_; refine mv ?_) | (refine K_region (id := 19) ?_; refine mv ?_; refine mv ?_; refine mv ?_; refine KO_nil ?_)))
          refine K_ret ⟨_, rfl, ?_⟩
          have hf := I.found hk
          rw [‹nmA mp k = b›, e1] at hf
          exact .inl ⟨v15, _, rfl, S.only .here, hak, hbk, hf, by rw [← e1]; omega⟩
        · obtain ⟨j, j1, j2, j3⟩ := e2.resolve_left (fun q => absurd q.2 (by assumption))
          skip
          all_goals (repeat' (first | refine K_seq ?_ | refine k_cond rfl ?_ | refine K_skip ?_ | refine K_exit ?_ | refine k_block ?_ | refine K_scope ?_ | refine K_label ?_ | (refine K_region (id := 17) ?_; refine mv ?_; refine mv ?_; (refine one 1 S ?_; clear S; intro u h S))))
          refine app (y0 := n) S rfl rfl ?_; clear S; intro v15 h S; (refine mv ?_; refine KO_nil ?_)
          all_goals (repeat' (first | refine K_seq ?_ | refine k_cond rfl ?_ | refine K_skip ?_ | refine K_exit ?_ | refine k_block ?_ | refine K_scope ?_ | refine K_label ?_ | (refine K_region (id := 16) ?_; refine mv ?_; refine mv ?_)))
          have hg := mGet_nd I.c.nd j1
          rw [← j3] at hg
          refine lk S (.there .here) (fun y hy => ?_) (fun hy => by rw [hg] at hy; cases hy)
          rw [hg] at hy; cases hy
          simp only [okV]
          (refine mv ?_; refine KO_nil ?_)
          rcases Nat.eq_zero_or_pos j with z | z
          · subst z
            rw [tpth0] at j2
            rw [I.c.f0]
            refine ⟨(v15, L ++ [n], [], []), ?_, ?_, (by repeat (first | exact Ks.le_nil _ | refine Ks.le_cons rfl ?_ | refine Ks.le_int ?_))⟩
            · show ([] : List (List UInt8)).length < T.length
              rw [j2]; simp
            · refine ⟨S, ?_, .inl ⟨rfl, rfl⟩⟩
              rw [e1, j2, j3]; simp
          · have hp := (I.c.fr j z j1).1
            rw [I.c.step z j1] at j2
            rw [hp]
            refine ⟨(v15, L ++ [n], tpth mp pa (pa j), nmA mp (pa j)), ?_, ?_, (by repeat (first | exact Ks.le_nil _ | refine Ks.le_cons rfl ?_ | refine Ks.le_int ?_))⟩
            · show (tpth mp pa (pa j)).length < T.length
              rw [j2]; simp
            · have := I.c.lt j z j1
              refine ⟨S, ?_, .inr ⟨pa j, by omega, rfl, rfl⟩⟩
              rw [e1, j2, j3]; simp
      · have J0' := I.start (ns := ns) hk
        all_goals (repeat' (first | refine K_seq ?_ | refine k_cond rfl ?_ | refine K_skip ?_ | refine K_exit ?_ | refine k_block ?_ | refine K_scope ?_ | refine K_label ?_ | (refine K_region (id := 20) ?_; refine mv ?_; (first | refine lnB S ?_ | refine lnS S rfl rfl ?_); refine mv ?_; refine KO_nil ?_)))
        refine k_loop (σ := Nat × NMap × (Nat → Nat) × Value) (fun (i, mp, pa, v14) h' => Hs h0 h' [.sl v14 9 1 eS ((mp.map (·.1)).drop k), .mp m str mp, .sl un 9 1 eS ns] ∧ i ≤ ns.length ∧ BJ r ns a mp pa k i ∧ (∀ i, i < k + 1 → nmA mp i ≠ b)) (fun (i, mp, pa, v14) => ns.length - i) (fun (i, mp, pa, v14) => [(0, .pointer (some ⟨p, 0, none⟩)), (2, str b), (12, un), (13, .map (some m)), (14, v14), (77, un), (78, .int .i64 ns.length), (79, .int .i64 i)]) (0, mp, pa, v14) (by repeat (first | exact Ks.le_nil _ | refine Ks.le_cons rfl ?_ | refine Ks.le_int ?_)) ?_ ?_
        · exact ⟨S, Nat.zero_le _, J0', nxtD hno hc⟩
        clear S I hno hml hle hdl hc J0' hk
        rintro ⟨i, mp, pa, v14⟩ h ⟨S, i1, J, hno⟩
        have hml := J.c.len H
        have hk := J.lt
        have hdl : ((mp.map (·.1)).drop k).length = mp.length - k := by simp
        all_goals (repeat' (first | refine K_seq ?_ | refine k_cond rfl ?_ | refine K_skip ?_ | refine K_exit ?_ | refine k_block ?_ | refine K_scope ?_ | refine K_label ?_ | (refine K_region (id := 21) ?_; (first | refine cT ?_ | refine cF ?_ | (refine cS ?_ ?_ <;> intro hc)) <;> (refine KO_nil ?_))))
        · have hil : i < ns.length := by omega
          obtain ⟨n, hn⟩ : ∃ n, ns.getD i default = n := ⟨_, rfl⟩
          all_goals (repeat' (first | refine K_seq ?_ | refine k_cond rfl ?_ | refine K_skip ?_ | refine K_exit ?_ | refine k_block ?_ | refine K_scope ?_ | refine K_label ?_ | (refine K_region (id := 22) ?_; (first | refine ixB S ?_ | refine ixS2 S rfl rfl ?_); (first | refine lB S rfl rfl ?_ | refine lES2 S rfl rfl ?_ | refine lEB S ?_ | refine lH S ?_); refine mv ?_; refine KO_nil ?_) | (refine K_region (id := 23) ?_; refine mv ?_; refine mv ?_)))
          simp only [Int.toNat_natCast, hn]
          refine lk S (.there .here) (fun y hy => ?_) (fun hy => ?_)
          · simp only [okV]
            (refine mv ?_; refine vl ?_; refine vl ?_; refine mv ?_; refine mv ?_; refine KO_nil ?_)
            all_goals (repeat' (first | refine K_seq ?_ | refine k_cond rfl ?_ | refine K_skip ?_ | refine K_exit ?_ | refine k_block ?_ | refine K_scope ?_ | refine K_label ?_ | (refine K_region (id := 24) ?_; refine mv ?_; refine vl ?_; refine mv ?_; (first | refine off ?_ | refine mv ?_); (first | refine off ?_ | refine mv ?_); (first | refine off ?_ | (first | refine ixB S ?_ | refine ixS2 S rfl rfl ?_)); (first | refine off ?_ | (first | refine lB S rfl rfl ?_ | refine lES2 S rfl rfl ?_ | refine lEB S ?_ | refine lH S ?_)); (first | refine off ?_ | refine mv ?_); (first | (refine off ?_; (first | refine off ?_ | (first | refine lnB S ?_ | refine lnS S rfl rfl ?_)); (first | refine off ?_ | (first | refine cT ?_ | refine cF ?_ | (refine cS ?_ ?_ <;> intro hc))) <;> (refine vl ?_; refine KO_nil ?_)) | skip))))
            all_goals (repeat' (first | refine K_seq ?_ | refine k_cond rfl ?_ | refine K_skip ?_ | refine K_exit ?_ | refine k_block ?_ | refine K_scope ?_ | refine K_label ?_ | (refine K_region (id := 27) ?_; (first | refine ad ?_ | refine vl ?_); refine mv ?_; refine KO_nil ?_)))
            refine ⟨(i + 1, mp, pa, v14), ?_, ?_, (by repeat (first | exact Ks.le_nil _ | refine Ks.le_cons rfl ?_ | refine Ks.le_int ?_))⟩
            · show ns.length - (i + 1) < ns.length - i; omega
            · have hnm : mGet mp n ≠ none := by rw [hy]; simp
              exact ⟨S, hil, J.skip (.inl (by rw [hn]; exact hnm)) (fun _ => by rw [hn]; exact mGet_mem.1 hnm), hno⟩
          · simp only [okV]
            (refine mv ?_; refine vl ?_; refine vl ?_; refine mv ?_; refine mv ?_; refine KO_nil ?_)
            skip
            all_goals (repeat' (first | refine K_seq ?_ | refine k_cond rfl ?_ | refine K_skip ?_ | refine K_exit ?_ | refine k_block ?_ | refine K_scope ?_ | refine K_label ?_ | (refine K_region (id := 24) ?_; refine mv ?_; refine vl ?_; refine mv ?_; (first | refine off ?_ | refine mv ?_); (first | refine off ?_ | refine mv ?_); (first | refine off ?_ | (first | refine ixB S ?_ | refine ixS2 S rfl rfl ?_)); (first | refine off ?_ | (first | refine lB S rfl rfl ?_ | refine lES2 S rfl rfl ?_ | refine lEB S ?_ | refine lH S ?_)); (first | refine off ?_ | refine mv ?_); (first | (refine off ?_; (first | refine off ?_ | (first | refine lnB S ?_ | refine lnS S rfl rfl ?_)); (first | refine off ?_ | (first | refine cT ?_ | refine cF ?_ | (refine cS ?_ ?_ <;> intro hc))) <;> (refine vl ?_; refine KO_nil ?_)) | skip))))
            simp only [Int.toNat_zero, drop_get0] at *
            (refine KO_fn rfl rfl rfl rfl rfl ((common_ok S.wf (B0.ext w S.ext) H (nmA mp k) n).mono ?_); rintro uc h ⟨lc, x, c1, c2⟩) <;> (replace S := S.join1 x; clear x; (first | refine off ?_ | (first | refine lnB S ?_ | refine lnS S rfl rfl ?_)); (first | refine off ?_ | (first | refine cT ?_ | refine cF ?_ | (refine cS ?_ ?_ <;> intro hc))) <;> (refine vl ?_; refine KO_nil ?_))
            all_goals (repeat' (first | refine K_seq ?_ | refine k_cond rfl ?_ | refine K_skip ?_ | refine K_exit ?_ | refine k_block ?_ | refine K_scope ?_ | refine K_label ?_ | (refine K_region (id := 24) ?_; refine mv ?_; refine vl ?_; refine mv ?_; (first | refine off ?_ | refine mv ?_); (first | refine off ?_ | refine mv ?_); (first | refine off ?_ | (first | refine ixB S ?_ | refine ixS2 S rfl rfl ?_)); (first | refine off ?_ | (first | refine lB S rfl rfl ?_ | refine lES2 S rfl rfl ?_ | refine lEB S ?_ | refine lH S ?_)); (first | refine off ?_ | refine mv ?_); (first | (refine off ?_; (first | refine off ?_ | (first | refine lnB S ?_ | refine lnS S rfl rfl ?_)); (first | refine off ?_ | (first | refine cT ?_ | refine cF ?_ | (refine cS ?_ ?_ <;> intro hc))) <;> (refine vl ?_; refine KO_nil ?_)) | skip))))
            · have hsp : spk r (nmA mp k) n := comF_spk.1 (by rw [← c1]; omega)
              all_goals (repeat' (first | refine K_seq ?_ | refine k_cond rfl ?_ | refine K_skip ?_ | refine K_exit ?_ | refine k_block ?_ | refine K_scope ?_ | refine K_label ?_ | (refine K_region (id := 25) ?_; refine mv ?_; refine mv ?_; refine mv ?_; (first | refine ixB S ?_ | refine ixS2 S rfl rfl ?_); (first | refine lB S rfl rfl ?_ | refine lES2 S rfl rfl ?_ | refine lEB S ?_ | refine lH S ?_))))
              simp only [Int.toNat_zero, drop_get0]
              refine up (x := nmA mp k) (key := n) S (.there (.there .here)) (.there (.there .here)) (fun h S => ?_) (.inl rfl)
              (refine KO_nil ?_)
              all_goals (repeat' (first | refine K_seq ?_ | refine k_cond rfl ?_ | refine K_skip ?_ | refine K_exit ?_ | refine k_block ?_ | refine K_scope ?_ | refine K_label ?_ | (refine K_region (id := 26) ?_; refine mv ?_; refine mv ?_; (refine one 1 S ?_; clear S; intro u h S))))
              refine app (y0 := n) S rfl rfl ?_; clear S; intro v14 h S; (refine mv ?_; refine KO_nil ?_)
              skip
              all_goals (repeat' (first | refine K_seq ?_ | refine k_cond rfl ?_ | refine K_skip ?_ | refine K_exit ?_ | refine k_block ?_ | refine K_scope ?_ | refine K_label ?_ | (refine K_region (id := 27) ?_; (first | refine ad ?_ | refine vl ?_); refine mv ?_; refine KO_nil ?_)))
              rw [mPut_new hy] at S
              have J2 := J.add n1 hil (by rw [hn]; exact fun q => mGet_mem.2 q hy) (by rw [hn]; exact hsp)
              rw [hn] at J2
              refine ⟨(i + 1, mp ++ [(n, nmA mp k)], paU pa mp.length k, v14), ?_, ?_, (by repeat (first | exact Ks.le_nil _ | refine Ks.le_cons rfl ?_ | refine Ks.le_int ?_))⟩
              · show ns.length - (i + 1) < ns.length - i; omega
              · refine ⟨?_, hil, J2, fun z hz => ?_⟩
                · have ed : ((mp ++ [(n, nmA mp k)]).map (·.1)).drop k = (mp.map (·.1)).drop k ++ [n] := by
                    rw [List.map_append, List.drop_append_of_le_length (by simp; omega)]; rfl
                  show Hs h0 h [.sl v14 9 1 eS (((mp ++ [(n, nmA mp k)]).map (·.1)).drop k), .mp m str (mp ++ [(n, nmA mp k)]), .sl un 9 1 eS ns]
                  rw [ed]
                  exact S.pick
                · have : nmA (mp ++ [(n, nmA mp k)]) z = nmA mp z := by unfold nmA; rw [gA1 (by omega)]
                  dsimp only
                  rw [this]; exact hno z hz
            · have hsp : ¬ spk r (nmA mp k) n := fun q => by
                have := comF_spk.2 q
                rw [← c1] at this; omega
              skip
              all_goals (repeat' (first | refine K_seq ?_ | refine k_cond rfl ?_ | refine K_skip ?_ | refine K_exit ?_ | refine k_block ?_ | refine K_scope ?_ | refine K_label ?_ | (refine K_region (id := 27) ?_; (first | refine ad ?_ | refine vl ?_); refine mv ?_; refine KO_nil ?_)))
              refine ⟨(i + 1, mp, pa, v14), ?_, ?_, (by repeat (first | exact Ks.le_nil _ | refine Ks.le_cons rfl ?_ | refine Ks.le_int ?_))⟩
              · show ns.length - (i + 1) < ns.length - i; omega
              · exact ⟨S.pick, hil, J.skip (.inr (by rw [hn]; exact hsp)) (fun q => by rw [hn] at q; exact absurd hy q), hno⟩
        · obtain rfl : i = ns.length := by omega
          exact ⟨(mp, pa, v14), ⟨S.pick, J.fin fun y hy => (n2 y).2 hy, hno⟩, ((by repeat (first | exact Ks.le_nil _ | refine Ks.le_cons rfl ?_ | refine Ks.le_int ?_)))⟩
    · clear S I hno hml hle hdl hk
      rintro ⟨mp, pa, v14⟩ h ⟨S, I, hno⟩
      have hml := I.c.len H
      have hle := I.le
      skip
      all_goals (repeat' (first | refine K_seq ?_ | refine k_cond rfl ?_ | refine K_skip ?_ | refine K_exit ?_ | refine k_block ?_ | refine K_scope ?_ | refine K_label ?_ | (refine K_region (id := 11) ?_; refine mv ?_; (refine dr S rfl rfl ?_; clear S; intro vq S); refine mv ?_; refine KO_nil ?_)))
      refine ⟨(k + 1, mp, pa, vq), ?_, ?_, (by repeat (first | exact Ks.le_nil _ | refine Ks.le_cons rfl ?_ | refine Ks.le_int ?_))⟩
      · show 65 - (k + 1) < 65 - k; omega
      · refine ⟨?_, I, hno⟩
        (try dsimp only)
        rw [show ((mp.map (·.1)).drop (k + 1)) = ((mp.map (·.1)).drop k).drop (Int.toNat 1) from by rw [List.drop_drop]; rfl]
        exact S.pick
  · have hk : k = mp.length := by omega
    subst hk
    skip
    all_goals (repeat' (first | refine K_seq ?_ | refine k_cond rfl ?_ | refine K_skip ?_ | refine K_exit ?_ | refine k_block ?_ | refine K_scope ?_ | refine K_label ?_ | (refine K_region (id := 28) ?_; refine mv ?_; refine mv ?_; refine KO_nil ?_)))
    refine K_ret ⟨_, rfl, ?_⟩
    exact .inr ⟨rfl, fun _ _ => I.lost hno, S.drop⟩
end Go.Proofs.Xx

/-
  BookChains.
-/
namespace Go.Proofs.Xx
open Go Go.Proofs
set_option linter.unusedSimpArgs false
set_option linter.unusedVariables false
set_option linter.unusedSectionVars false
set_option maxRecDepth 100000
set_option maxHeartbeats 4000000

variable [Flag]
theorem chainY_ok {h0 : AH} (w : WfH h0) {p : Nat} {r : Rl} (B : BkRd h0 p r) (H : RO r) (a b : List UInt8) (ha : gat r.us a ≠ none) (hb : gat r.us b ≠ none) (hp : ∃ Q, Pth r a Q b) : Fn Tryz.prog Xh 29 [.pointer (some ⟨p, 0, none⟩), str a, str b] h0 (fun u h' => ∃ v P, u = .tuple #[v, .bool true] ∧ Hs h0 h' [.sl v 9 1 eS P] ∧ ChainOk r a b P ∧ P.length ≤ 64) :=
  (chain_ok w B H a b).mono fun u h' q => by
    rcases q with ⟨v, P, h1, h2, -, -, h3, h4⟩ | ⟨-, h2, -⟩
    · exact ⟨v, P, h1, h2, h3, h4⟩
    · obtain ⟨Q, hq⟩ := hp
      exact absurd hq (h2 ha hb Q)
theorem chainN_ok {h0 : AH} (w : WfH h0) {p : Nat} {r : Rl} (B : BkRd h0 p r) (H : RO r) (a b : List UInt8) (hn : gat r.us a = none ∨ ¬ ∃ Q, Pth r a Q b) : Fn Tryz.prog Xh 29 [.pointer (some ⟨p, 0, none⟩), str a, str b] h0 (fun u h' => u = .tuple #[.slice none 0 0, .bool false] ∧ Hs h0 h' []) :=
  (chain_ok w B H a b).mono fun u h' q => by
    rcases q with ⟨v, P, h1, h2, h3, -, h5, -⟩ | ⟨h1, -, h3⟩
    · rcases hn with z | z
      · exact absurd z h3
      · exact absurd ⟨P, h5.pth⟩ z
    · exact ⟨h1, h3⟩
theorem bookChains_true {h0 : AH} (w : WfH h0) (va vb : Value) (la lb : List Nat) (na nb : Nat) (ra : RdL h0 va 1 e16 la) (rb : RdL h0 vb 1 eU lb) (hla : la.length ≤ 9223372036854775807) (hlb : lb.length ≤ 9223372036854775807) (h16 : ∀ i, i < la.length → la.getD i default < 65536) (h8 : ∀ i, i < lb.length → lb.getD i default < 256) (hna : na < 256) (hnb : nb < 256) :
    Fn Tryz.prog Xh 6 [va, vb, .int .u8 na, .int .u8 nb] h0 (fun v _ => v = .bool true) := by
  have S := Hs.start w
  refine Fn_K rfl Tryz.func6 rfl rfl ?_
  all_goals (repeat' (first | refine K_seq ?_ | refine k_cond rfl ?_ | refine K_skip ?_ | refine K_exit ?_ | refine k_block ?_ | refine K_scope ?_ | refine K_label ?_ | (refine K_region (id := 0) ?_; refine mv ?_; refine KO_nil ?_) | (refine K_region (id := 1) ?_; refine mv ?_; refine mv ?_)))
  (refine KO_fn rfl rfl rfl rfl rfl ((made_ok w va vb la lb ra rb hla hlb h16 h8).mono ?_); rintro _ h ⟨⟨vg, vt, gs⟩, r, rfl, HR, H, hM, x⟩) <;> (replace S := S.join0 x; clear x; have w0 := w; have w := S.wf; have S := Hs.start w; (refine al S ?_; clear S; intro b h S); (first | (refine sB S rfl rfl ?_; clear S; intro h S) | (refine sE2 S rfl rfl ?_; clear S; intro h S)); refine KO_nil ?_)
  obtain ⟨b9, hnm⟩ : ∃ x, x = b := ⟨_, rfl⟩; subst hnm
  all_goals (repeat' (first | refine K_seq ?_ | refine k_cond rfl ?_ | refine K_skip ?_ | refine K_exit ?_ | refine k_block ?_ | refine K_scope ?_ | refine K_label ?_ | (refine K_region (id := 2) ?_; (first | refine lB S rfl rfl ?_ | refine lES2 S rfl rfl ?_ | refine lEB S ?_ | refine lH S ?_))))
  (refine KO_fn rfl rfl rfl rfl rfl ((book_ok S.wf ⟨vg, vt, gs⟩ r (HR.ext w S.ext) H).mono ?_); rintro _ h ⟨p, rfl, x⟩) <;> (replace S := S.join1 x; clear x; refine mv ?_; refine vl ?_; refine vl ?_; refine mv ?_; refine mv ?_; refine KO_nil ?_)
  have hbk := Hs.bkRd (S.pick : Hs _ h [bookR p r])
  have hb9 : h.get b9 = some (.cells [vg.val, vt.val] 32 none false) := blk_get S (.there .here)
  have hrg := HR.rg.ext w S.ext
  have hgl := HR.len
  have hM12 := hM.1
  have w2 := w
  clear w
  have w := S.wf
  replace S := Hs.start w
  obtain ⟨hB, hnm⟩ : ∃ x, x = h := ⟨_, rfl⟩; subst hnm
  simp only at hrg hgl
  all_goals (repeat' (first | refine K_seq ?_ | refine k_cond rfl ?_ | refine K_skip ?_ | refine K_exit ?_ | refine k_block ?_ | refine K_scope ?_ | refine K_label ?_ | (refine K_region (id := 2) ?_; (first | refine lB S rfl rfl ?_ | refine lES2 S rfl rfl ?_ | refine lEB S ?_ | refine lH S ?_)) | (refine K_region (id := 3) ?_; refine mv ?_; refine vl ?_; refine KO_nil ?_) | (refine K_region (id := 5) ?_; (first | refine vl ?_ | refine fB S ?_ | refine fS S rfl rfl ?_ | refine fA ?_); (first | refine lB S rfl rfl ?_ | refine lES2 S rfl rfl ?_ | refine lEB S ?_ | refine lH S ?_); (first | refine lnB S ?_ | refine lnS S rfl rfl ?_); (first | refine cT ?_ | refine cF ?_ | (refine cS ?_ ?_ <;> intro hc)) <;> (refine KO_nil ?_))))
  · have hno : gat r.us [97] = none := gat_none.2 fun g hg => by
      have : r.us = [] := List.eq_nil_of_length_eq_zero (by omega)
      rw [this] at hg; cases hg
    all_goals (repeat' (first | refine K_seq ?_ | refine k_cond rfl ?_ | refine K_skip ?_ | refine K_exit ?_ | refine k_block ?_ | refine K_scope ?_ | refine K_label ?_ | (refine K_region (id := 6) ?_; refine mv ?_)))
    (refine KO_fn rfl rfl rfl rfl rfl ((chainN_ok S.wf (hbk.ext w S.ext) H [97] [97] (.inl hno)).mono ?_); rintro _ h ⟨rfl, x⟩) <;> (replace S := S.join0 x; clear x; refine mv ?_; refine vl ?_; refine vl ?_; refine mv ?_; refine mv ?_; refine KO_nil ?_)
    all_goals (repeat' (first | refine K_seq ?_ | refine k_cond rfl ?_ | refine K_skip ?_ | refine K_exit ?_ | refine k_block ?_ | refine K_scope ?_ | refine K_label ?_ | (refine K_region (id := 6) ?_; refine mv ?_) | (refine K_region (id := 7) ?_; refine mv ?_; refine vl ?_; refine mv ?_; (first | (refine off ?_; refine vl ?_; refine mv ?_; refine KO_nil ?_) | skip))))
    (refine KO_fn rfl rfl rfl rfl rfl ((awake_okS S.wf).mono ?_); rintro _ h ⟨rfl, x⟩) <;> (replace S := S.join0 x; clear x; refine vl ?_; refine mv ?_; refine KO_nil ?_)
    all_goals (repeat' (first | refine K_seq ?_ | refine k_cond rfl ?_ | refine K_skip ?_ | refine K_exit ?_ | refine k_block ?_ | refine K_scope ?_ | refine K_label ?_ | (refine K_region (id := 3) ?_; refine mv ?_; refine vl ?_; refine KO_nil ?_) | (refine K_region (id := 4) ?_; refine mv ?_; refine KO_nil ?_) | (refine K_region (id := 5) ?_; (first | refine vl ?_ | refine fB S ?_ | refine fS S rfl rfl ?_ | refine fA ?_); (first | refine lB S rfl rfl ?_ | refine lES2 S rfl rfl ?_ | refine lEB S ?_ | refine lH S ?_); (first | refine lnB S ?_ | refine lnS S rfl rfl ?_); (first | refine cT ?_ | refine cF ?_ | (refine cS ?_ ?_ <;> intro hc)) <;> (refine KO_nil ?_)) | (refine K_region (id := 6) ?_; refine mv ?_) | (refine K_region (id := 7) ?_; refine mv ?_; refine vl ?_; refine mv ?_; (first | (refine off ?_; refine vl ?_; refine mv ?_; refine KO_nil ?_) | skip)) | (refine K_draw (id := 8) ?_; (first | refine vl ?_ | refine fB S ?_ | refine fS S rfl rfl ?_ | refine fA ?_); (first | refine lB S rfl rfl ?_ | refine lES2 S rfl rfl ?_ | refine lEB S ?_ | refine lH S ?_); refine mv ?_; (first | refine cI ?_ | refine vl ?_); (first | refine vl ?_ | refine fB S ?_ | refine fS S rfl rfl ?_ | refine fA ?_); (first | refine lB S rfl rfl ?_ | refine lES2 S rfl rfl ?_ | refine lEB S ?_ | refine lH S ?_); (first | refine lnB S ?_ | refine lnS S rfl rfl ?_); (first | refine rm ?_ | refine vl ?_); (first | refine ixB S ?_ | refine ixS2 S rfl rfl ?_); (first | refine vl ?_ | refine fB S ?_ | refine fS S rfl rfl ?_ | refine fA ?_); (first | refine lB S rfl rfl ?_ | refine lES2 S rfl rfl ?_ | refine lEB S ?_ | refine lH S ?_); refine mv ?_; refine KO_nil ?_) | (refine K_draw (id := 9) ?_; (first | refine vl ?_ | refine fB S ?_ | refine fS S rfl rfl ?_ | refine fA ?_); (first | refine lB S rfl rfl ?_ | refine lES2 S rfl rfl ?_ | refine lEB S ?_ | refine lH S ?_); refine mv ?_; (first | refine cI ?_ | refine vl ?_); (first | refine vl ?_ | refine fB S ?_ | refine fS S rfl rfl ?_ | refine fA ?_); (first | refine lB S rfl rfl ?_ | refine lES2 S rfl rfl ?_ | refine lEB S ?_ | refine lH S ?_); (first | refine lnB S ?_ | refine lnS S rfl rfl ?_); (first | refine rm ?_ | refine vl ?_); (first | refine ixB S ?_ | refine ixS2 S rfl rfl ?_); (first | refine vl ?_ | refine fB S ?_ | refine fS S rfl rfl ?_ | refine fA ?_); (first | refine lB S rfl rfl ?_ | refine lES2 S rfl rfl ?_ | refine lEB S ?_ | refine lH S ?_); refine mv ?_; refine KO_nil ?_) | (refine K_region (id := 10) ?_; refine mv ?_; refine mv ?_; refine mv ?_; skip)))
    refine K_ret ⟨_, rfl, ?_⟩
    rfl
  · have hgl0 : 0 < gs.length := by omega
    have hmod : ∀ z : Nat, 0 ≤ (z : Int) % (gs.length : Int) ∧ (z : Int) % (gs.length : Int) < gs.length := fun z => ⟨Int.emod_nonneg _ (by omega), Int.emod_lt_of_pos _ (by omega)⟩
    have hm0 := hmod na
    have hm1 := hmod nb
    have hkn : ∀ z : Int, 0 ≤ z ∧ z < gs.length → gat r.us (gs.getD z.toNat default).name ≠ none := fun z hz => by
      have hi2 : z.toNat < gs.length := by omega
      have e : (gs.getD z.toNat default).toGu = r.us.getD _ default := HR.at_ hi2
      rw [gat_mem]
      exact ⟨_, mem_getD (show z.toNat < r.us.length by omega), by rw [← e]⟩
    have hkx := hkn _ hm0
    have hky := hkn _ hm1
    skip
    all_goals (repeat' (first | refine K_seq ?_ | refine k_cond rfl ?_ | refine K_skip ?_ | refine K_exit ?_ | refine k_block ?_ | refine K_scope ?_ | refine K_label ?_ | (refine K_draw (id := 8) ?_; (first | refine vl ?_ | refine fB S ?_ | refine fS S rfl rfl ?_ | refine fA ?_); (first | refine lB S rfl rfl ?_ | refine lES2 S rfl rfl ?_ | refine lEB S ?_ | refine lH S ?_); refine mv ?_; (first | refine cI ?_ | refine vl ?_); (first | refine vl ?_ | refine fB S ?_ | refine fS S rfl rfl ?_ | refine fA ?_); (first | refine lB S rfl rfl ?_ | refine lES2 S rfl rfl ?_ | refine lEB S ?_ | refine lH S ?_); (first | refine lnB S ?_ | refine lnS S rfl rfl ?_); (first | refine rm ?_ | refine vl ?_); (first | refine ixB S ?_ | refine ixS2 S rfl rfl ?_); (first | refine vl ?_ | refine fB S ?_ | refine fS S rfl rfl ?_ | refine fA ?_); (first | refine lB S rfl rfl ?_ | refine lES2 S rfl rfl ?_ | refine lEB S ?_ | refine lH S ?_); refine mv ?_; refine KO_nil ?_) | (refine K_draw (id := 9) ?_; (first | refine vl ?_ | refine fB S ?_ | refine fS S rfl rfl ?_ | refine fA ?_); (first | refine lB S rfl rfl ?_ | refine lES2 S rfl rfl ?_ | refine lEB S ?_ | refine lH S ?_); refine mv ?_; (first | refine cI ?_ | refine vl ?_); (first | refine vl ?_ | refine fB S ?_ | refine fS S rfl rfl ?_ | refine fA ?_); (first | refine lB S rfl rfl ?_ | refine lES2 S rfl rfl ?_ | refine lEB S ?_ | refine lH S ?_); (first | refine lnB S ?_ | refine lnS S rfl rfl ?_); (first | refine rm ?_ | refine vl ?_); (first | refine ixB S ?_ | refine ixS2 S rfl rfl ?_); (first | refine vl ?_ | refine fB S ?_ | refine fS S rfl rfl ?_ | refine fA ?_); (first | refine lB S rfl rfl ?_ | refine lES2 S rfl rfl ?_ | refine lEB S ?_ | refine lH S ?_); refine mv ?_; refine KO_nil ?_)))
    generalize (gs.getD ((na : Int) % (gs.length : Int)).toNat default).name = xn at *
    generalize (gs.getD ((nb : Int) % (gs.length : Int)).toNat default).name = yn at *
    all_goals (repeat' (first | refine K_seq ?_ | refine k_cond rfl ?_ | refine K_skip ?_ | refine K_exit ?_ | refine k_block ?_ | refine K_scope ?_ | refine K_label ?_ | (refine K_region (id := 10) ?_; refine mv ?_; refine mv ?_; refine mv ?_; skip)))
    by_cases hp : ∃ Q, Pth r xn Q yn
    · have hp2 : ∃ Q, Pth r yn Q xn := let ⟨Q, q⟩ := hp; ⟨_, q.rev⟩
      (refine KO_fn rfl rfl rfl rfl rfl ((chainY_ok S.wf (hbk.ext w S.ext) H xn yn hkx hky hp).mono ?_); rintro _ h ⟨vc, P, rfl, x, C, hPl⟩) <;> (replace S := S.join1 x; clear x; refine mv ?_; refine vl ?_; refine vl ?_; refine mv ?_; refine mv ?_; refine KO_nil ?_)
      all_goals (repeat' (first | refine K_seq ?_ | refine k_cond rfl ?_ | refine K_skip ?_ | refine K_exit ?_ | refine k_block ?_ | refine K_scope ?_ | refine K_label ?_ | (refine K_region (id := 10) ?_; refine mv ?_; refine mv ?_; refine mv ?_; skip) | (refine K_region (id := 11) ?_; refine mv ?_; refine mv ?_; refine mv ?_; skip)))
      (refine KO_fn rfl rfl rfl rfl rfl ((chainY_ok S.wf (hbk.ext w S.ext) H yn xn hky hkx hp2).mono ?_); rintro _ h ⟨vd, P2, rfl, x, C2, hPl2⟩) <;> (replace S := S.join1 x; clear x; refine mv ?_; refine vl ?_; refine vl ?_; refine mv ?_; refine mv ?_; refine KO_nil ?_)
      have hPP := C.back C2
      have hP0 := C.pth.pos
      have hPh := C.pth.head
      have hPe := C.pth.last
      all_goals (repeat' (first | refine K_seq ?_ | refine k_cond rfl ?_ | refine K_skip ?_ | refine K_exit ?_ | refine k_block ?_ | refine K_scope ?_ | refine K_label ?_ | (refine K_region (id := 11) ?_; refine mv ?_; refine mv ?_; refine mv ?_; skip) | (refine K_region (id := 12) ?_; refine mv ?_; refine mv ?_; refine vl ?_; refine mv ?_; (first | refine off ?_ | refine mv ?_); (first | refine off ?_ | (first | refine lnB S ?_ | refine lnS S rfl rfl ?_)); (first | refine off ?_ | refine mv ?_); (first | refine off ?_ | (first | refine lnB S ?_ | refine lnS S rfl rfl ?_)); (first | refine off ?_ | (first | refine cT ?_ | refine cF ?_ | (refine cS ?_ ?_ <;> intro hc))) <;> (refine vl ?_; refine mv ?_; (first | refine off ?_ | refine mv ?_); (first | refine off ?_ | refine mv ?_); (first | refine off ?_ | (first | refine lnB S ?_ | refine lnS S rfl rfl ?_)); (first | refine off ?_ | (first | refine cT ?_ | refine cF ?_ | (refine cS ?_ ?_ <;> intro hc))) <;> ((first | refine off ?_ | refine vl ?_); refine vl ?_; refine KO_nil ?_)))))
      have hsl : ∀ (z : Nat), z < gs.length → (gs.getD z default).name = (r.us.getD z default).name := fun z hz => by
        have e := HR.at_ (show z < gs.length from hz)
        rw [← e]
      have hPe2 : P.getD ((P.length : Int) - 1).toNat default = yn := by rw [show ((P.length : Int) - 1).toNat = P.length - 1 by omega]; exact hPe
      (repeat (refine K_seq ?_)); first | refine K_joinR (σ := Unit) (fun _ h' => Hs hB h' [.sl vd 9 1 eS P2, .sl vc 9 1 eS P]) (fun _ => [(9, .pointer (some ⟨b9, 0, none⟩)), (10, .pointer (some ⟨p, 0, none⟩)), (14, str xn), (15, str yn), (16, vc), (17, .bool true)]) ?_ ?_ | refine K_join (σ := Unit) (fun _ h' => Hs hB h' [.sl vd 9 1 eS P2, .sl vc 9 1 eS P]) (fun _ => [(9, .pointer (some ⟨b9, 0, none⟩)), (10, .pointer (some ⟨p, 0, none⟩)), (14, str xn), (15, str yn), (16, vc), (17, .bool true)]) ?_ ?_
      · all_goals (repeat' (first | refine K_seq ?_ | refine k_cond rfl ?_ | refine K_skip ?_ | refine K_exit ?_ | refine k_block ?_ | refine K_scope ?_ | refine K_label ?_ | (refine K_region (id := 14) ?_; refine mv ?_; refine mv ?_; (first | refine off ?_ | refine mv ?_); (first | refine off ?_ | (first | refine ixB S ?_ | refine ixS2 S rfl rfl ?_)); (first | refine off ?_ | (first | refine lB S rfl rfl ?_ | refine lES2 S rfl rfl ?_ | refine lEB S ?_ | refine lH S ?_)); (first | refine off ?_ | refine mv ?_); (first | refine off ?_ | (refine tS ?_ ?_ <;> intro hc)) <;> ((first | refine off ?_ | refine mv ?_); (first | refine off ?_ | refine mv ?_); (first | refine off ?_ | refine mv ?_); (first | refine off ?_ | (first | refine lnB S ?_ | refine lnS S rfl rfl ?_)); (first | refine off ?_ | (first | refine sb ?_ | refine vl ?_)); (first | refine off ?_ | (first | refine ixB S ?_ | refine ixS2 S rfl rfl ?_)); (first | refine off ?_ | (first | refine lB S rfl rfl ?_ | refine lES2 S rfl rfl ?_ | refine lEB S ?_ | refine lH S ?_)); (first | refine off ?_ | refine mv ?_); (first | refine off ?_ | (refine tS ?_ ?_ <;> intro hc)) <;> ((first | refine off ?_ | refine vl ?_); refine vl ?_; refine KO_nil ?_)))))
        all_goals simp only [Int.toNat_zero, hPh, hPe2] at *
        all_goals first
          | exact ⟨(), S, ((by repeat (first | exact Ks.le_nil _ | refine Ks.le_cons rfl ?_ | refine Ks.le_int ?_)))⟩
          | (exfalso; omega)
          | contradiction
          | skip
      clear S
      rintro - h S
      have hPr := Rd.of_sl S (.there .here)
      skip
      all_goals (repeat' (first | refine K_seq ?_ | refine k_cond rfl ?_ | refine K_skip ?_ | refine K_exit ?_ | refine k_block ?_ | refine K_scope ?_ | refine K_label ?_ | (refine K_region (id := 16) ?_; refine mv ?_; refine KO_nil ?_)))
      refine k_loop (σ := Nat) (fun i h' => Hs hB h' [.sl vd 9 1 eS P2, .sl vc 9 1 eS P] ∧ 1 ≤ i ∧ i ≤ P.length) (fun i => P.length - i) (fun i => [(9, .pointer (some ⟨b9, 0, none⟩)), (10, .pointer (some ⟨p, 0, none⟩)), (14, str xn), (15, str yn), (16, vc), (17, .bool true), (20, .int .i64 i)]) 1 (by repeat (first | exact Ks.le_nil _ | refine Ks.le_cons rfl ?_ | refine Ks.le_int ?_)) ?_ ?_
      · exact ⟨S, Nat.le_refl _, hP0⟩
      clear S
      rintro i h ⟨S, g0, g1⟩
      all_goals (repeat' (first | refine K_seq ?_ | refine k_cond rfl ?_ | refine K_skip ?_ | refine K_exit ?_ | refine k_block ?_ | refine K_scope ?_ | refine K_label ?_ | (refine K_region (id := 17) ?_; refine mv ?_; refine mv ?_; (first | refine lnB S ?_ | refine lnS S rfl rfl ?_); (first | refine cT ?_ | refine cF ?_ | (refine cS ?_ ?_ <;> intro hc)) <;> (refine KO_nil ?_))))
      · have hil : i < P.length := by omega
        have hsp := C.pth.adj (i - 1) (by omega)
        rw [show i - 1 + 1 = i by omega] at hsp
        have hcl := comF_spk.2 hsp
        all_goals (repeat' (first | refine K_seq ?_ | refine k_cond rfl ?_ | refine K_skip ?_ | refine K_exit ?_ | refine k_block ?_ | refine K_scope ?_ | refine K_label ?_ | (refine K_draw (id := 19) ?_; refine mv ?_; refine mv ?_; refine mv ?_; (first | refine sb ?_ | refine vl ?_); (first | refine ixB S ?_ | refine ixS2 S rfl rfl ?_); (first | refine lB S rfl rfl ?_ | refine lES2 S rfl rfl ?_ | refine lEB S ?_ | refine lH S ?_); refine mv ?_; refine mv ?_; (first | refine ixB S ?_ | refine ixS2 S rfl rfl ?_); (first | refine lB S rfl rfl ?_ | refine lES2 S rfl rfl ?_ | refine lEB S ?_ | refine lH S ?_))))
        simp only [Int.toNat_natCast, show ((i : Int) - 1).toNat = i - 1 by omega]
        (refine KO_fn rfl rfl rfl rfl rfl ((common_ok S.wf (hbk.ext w S.ext) H (P.getD (i - 1) default) (P.getD i default)).mono ?_); rintro uc h ⟨lc, x, c1, c2⟩) <;> (replace S := S.join1 x; clear x; rw [← c1] at hcl; (first | refine lnB S ?_ | refine lnS S rfl rfl ?_); (first | refine cT ?_ | refine cF ?_ | (refine cS ?_ ?_ <;> intro hc)) <;> (refine KO_nil ?_))
        all_goals (repeat' (first | refine K_seq ?_ | refine k_cond rfl ?_ | refine K_skip ?_ | refine K_exit ?_ | refine k_block ?_ | refine K_scope ?_ | refine K_label ?_ | (refine K_region (id := 18) ?_; refine mv ?_; (first | refine ad ?_ | refine vl ?_); refine mv ?_; refine KO_nil ?_) | (refine K_draw (id := 19) ?_; refine mv ?_; refine mv ?_; refine mv ?_; (first | refine sb ?_ | refine vl ?_); (first | refine ixB S ?_ | refine ixS2 S rfl rfl ?_); (first | refine lB S rfl rfl ?_ | refine lES2 S rfl rfl ?_ | refine lEB S ?_ | refine lH S ?_); refine mv ?_; refine mv ?_; (first | refine ixB S ?_ | refine ixS2 S rfl rfl ?_); (first | refine lB S rfl rfl ?_ | refine lES2 S rfl rfl ?_ | refine lEB S ?_ | refine lH S ?_))))
        refine ⟨i + 1, ?_, ?_, (by repeat (first | exact Ks.le_nil _ | refine Ks.le_cons rfl ?_ | refine Ks.le_int ?_))⟩
        · show P.length - (i + 1) < P.length - i; omega
        · exact ⟨S.pick, by omega, by omega⟩
      · skip
        all_goals (repeat' (first | refine K_seq ?_ | refine k_cond rfl ?_ | refine K_skip ?_ | refine K_exit ?_ | refine k_block ?_ | refine K_scope ?_ | refine K_label ?_ | (refine K_region (id := 21) ?_; refine mv ?_; refine KO_nil ?_)))
        refine k_loop (σ := Nat) (fun i h' => Hs hB h' [.sl vc 9 1 eS P] ∧ i ≤ gs.length) (fun i => gs.length - i) (fun i => [(9, .pointer (some ⟨b9, 0, none⟩)), (10, .pointer (some ⟨p, 0, none⟩)), (14, str xn), (15, str yn), (16, vc), (17, .bool true), (21, .int .i64 i)]) 0 (by repeat (first | exact Ks.le_nil _ | refine Ks.le_cons rfl ?_ | refine Ks.le_int ?_)) ?_ ?_
        · exact ⟨S.pick, Nat.zero_le _⟩
        clear S
        rintro i h ⟨S, g1⟩
        all_goals (repeat' (first | refine K_seq ?_ | refine k_cond rfl ?_ | refine K_skip ?_ | refine K_exit ?_ | refine K_scope ?_ | refine K_label ?_ | (refine K_region (id := 22) ?_; refine mv ?_; (first | refine vl ?_ | refine fB S ?_ | refine fS S rfl rfl ?_ | refine fA ?_); (first | refine lB S rfl rfl ?_ | refine lES2 S rfl rfl ?_ | refine lEB S ?_ | refine lH S ?_); (first | refine lnB S ?_ | refine lnS S rfl rfl ?_); (first | refine cT ?_ | refine cF ?_ | (refine cS ?_ ?_ <;> intro hc)) <;> (refine KO_nil ?_))))
        · have hil : i < gs.length := by omega
          have ei := hsl i hil
          have hkz := hkn (i : Int) (by omega)
          simp only [Int.toNat_natCast] at hkz
          (repeat (refine K_seq ?_)); first | refine K_join1 (σ := Unit) (fun _ h' => Hs hB h' [.sl vc 9 1 eS P]) (fun _ => [(9, .pointer (some ⟨b9, 0, none⟩)), (10, .pointer (some ⟨p, 0, none⟩)), (14, str xn), (15, str yn), (16, vc), (17, .bool true), (21, .int .i64 i)]) ?_ ?_ | refine K_cut (σ := Unit) (fun _ h' => Hs hB h' [.sl vc 9 1 eS P]) (fun _ => [(9, .pointer (some ⟨b9, 0, none⟩)), (10, .pointer (some ⟨p, 0, none⟩)), (14, str xn), (15, str yn), (16, vc), (17, .bool true), (21, .int .i64 i)]) ?_ ?_
          · all_goals (repeat' (first | refine K_seq ?_ | refine k_cond rfl ?_ | refine K_skip ?_ | refine K_exit ?_ | refine k_block ?_ | refine K_scope ?_ | refine K_label ?_ | (refine K_region (id := 24) ?_; (first | refine vl ?_ | refine fB S ?_ | refine fS S rfl rfl ?_ | refine fA ?_); (first | refine lB S rfl rfl ?_ | refine lES2 S rfl rfl ?_ | refine lEB S ?_ | refine lH S ?_); refine mv ?_; (first | refine ixB S ?_ | refine ixS2 S rfl rfl ?_); (first | refine vl ?_ | refine fB S ?_ | refine fS S rfl rfl ?_ | refine fA ?_); (first | refine lB S rfl rfl ?_ | refine lES2 S rfl rfl ?_ | refine lEB S ?_ | refine lH S ?_); refine mv ?_; refine KO_nil ?_)))
            simp only [Int.toNat_natCast]
            generalize hzn : (gs.getD i default).name = zn at *
            all_goals (repeat' (first | refine K_seq ?_ | refine k_cond rfl ?_ | refine K_skip ?_ | refine K_exit ?_ | refine k_block ?_ | refine K_scope ?_ | refine K_label ?_ | (refine K_region (id := 25) ?_; refine mv ?_; refine mv ?_; (refine tS ?_ ?_ <;> intro hc) <;> (refine mv ?_; (first | refine off ?_ | refine mv ?_); (first | refine off ?_ | refine mv ?_); (first | refine off ?_ | refine mv ?_); (first | (refine off ?_; (first | refine off ?_ | (first | refine lnB S ?_ | refine lnS S rfl rfl ?_)); (first | refine off ?_ | (first | refine cT ?_ | refine cF ?_ | (refine cS ?_ ?_ <;> intro hc))) <;> (refine vl ?_; refine KO_nil ?_)) | skip)))))
            · exact ⟨(), S, ((by repeat (first | exact Ks.le_nil _ | refine Ks.le_cons rfl ?_ | refine Ks.le_int ?_)))⟩
            · (refine KO_fn rfl rfl rfl rfl rfl ((common_ok S.wf (hbk.ext w S.ext) H xn zn).mono ?_); rintro uc h ⟨lc, x, c1, c2⟩) <;> (replace S := S.join1 x; clear x; (first | refine off ?_ | (first | refine lnB S ?_ | refine lnS S rfl rfl ?_)); (first | refine off ?_ | (first | refine cT ?_ | refine cF ?_ | (refine cS ?_ ?_ <;> intro hc))) <;> (refine vl ?_; refine KO_nil ?_))
              all_goals (repeat' (first | refine K_seq ?_ | refine k_cond rfl ?_ | refine K_skip ?_ | refine K_exit ?_ | refine k_block ?_ | refine K_scope ?_ | refine K_label ?_ | (refine K_region (id := 25) ?_; refine mv ?_; refine mv ?_; (refine tS ?_ ?_ <;> intro hc) <;> (refine mv ?_; (first | refine off ?_ | refine mv ?_); (first | refine off ?_ | refine mv ?_); (first | refine off ?_ | refine mv ?_); (first | (refine off ?_; (first | refine off ?_ | (first | refine lnB S ?_ | refine lnS S rfl rfl ?_)); (first | refine off ?_ | (first | refine cT ?_ | refine cF ?_ | (refine cS ?_ ?_ <;> intro hc))) <;> (refine vl ?_; refine KO_nil ?_)) | skip)))))
              · exact ⟨(), S.tail, ((by repeat (first | exact Ks.le_nil _ | refine Ks.le_cons rfl ?_ | refine Ks.le_int ?_)))⟩
              · have hsp : spk r xn zn := comF_spk.1 (by rw [← c1]; omega)
                have hp3 : ∃ Q, Pth r zn Q yn := let ⟨Q, q⟩ := hp; ⟨_, q.cons hsp.symm⟩
                skip
                all_goals (repeat' (first | refine K_seq ?_ | refine k_cond rfl ?_ | refine K_skip ?_ | refine K_exit ?_ | refine k_block ?_ | refine K_scope ?_ | refine K_label ?_ | (refine K_region (id := 26) ?_; refine mv ?_; refine mv ?_; refine mv ?_; skip)))
                (refine KO_fn rfl rfl rfl rfl rfl ((chainY_ok S.wf (hbk.ext w S.ext) H zn yn hkz hky hp3).mono ?_); rintro _ h ⟨ve, P3, rfl, x, C3, hPl3⟩) <;> (replace S := S.join1 x; clear x; refine mv ?_; refine vl ?_; refine vl ?_; refine mv ?_; refine mv ?_; refine KO_nil ?_)
                have hnr := C.near C3 hsp
                all_goals (repeat' (first | refine K_seq ?_ | refine k_cond rfl ?_ | refine K_skip ?_ | refine K_exit ?_ | refine k_block ?_ | refine K_scope ?_ | refine K_label ?_ | (refine K_region (id := 26) ?_; refine mv ?_; refine mv ?_; refine mv ?_; skip) | (refine K_region (id := 27) ?_; refine mv ?_; refine mv ?_; refine vl ?_; refine mv ?_; (first | refine off ?_ | refine mv ?_); (first | refine off ?_ | refine mv ?_); (first | refine off ?_ | refine mv ?_); (first | refine off ?_ | (first | refine lnB S ?_ | refine lnS S rfl rfl ?_)); (first | refine off ?_ | refine mv ?_); (first | refine off ?_ | (first | refine lnB S ?_ | refine lnS S rfl rfl ?_)); (first | refine off ?_ | (first | refine sb ?_ | refine vl ?_)); (first | refine off ?_ | (first | refine cT ?_ | refine cF ?_ | (refine cS ?_ ?_ <;> intro hc))) <;> ((first | refine off ?_ | refine vl ?_); refine vl ?_; refine KO_nil ?_))))
                all_goals first
                  | exact ⟨(), S.only (.there (.there .here)), ((by repeat (first | exact Ks.le_nil _ | refine Ks.le_cons rfl ?_ | refine Ks.le_int ?_)))⟩
                  | (exfalso; omega)
          · clear S
            rintro - h S
            skip
            all_goals (repeat' (first | refine K_seq ?_ | refine k_cond rfl ?_ | refine K_skip ?_ | refine K_exit ?_ | refine k_block ?_ | refine K_scope ?_ | refine K_label ?_ | (refine K_region (id := 23) ?_; refine mv ?_; (first | refine ad ?_ | refine vl ?_); refine mv ?_; refine KO_nil ?_)))
            refine ⟨i + 1, ?_, ?_, (by repeat (first | exact Ks.le_nil _ | refine Ks.le_cons rfl ?_ | refine Ks.le_int ?_))⟩
            · show gs.length - (i + 1) < gs.length - i; omega
            · exact ⟨S, by omega⟩
        · have hself : xn = yn → P.length = 1 := fun e => by subst e; exact C.self
          skip
          all_goals (repeat' (first | refine K_seq ?_ | refine k_cond rfl ?_ | refine K_skip ?_ | refine K_exit ?_ | refine k_block ?_ | refine K_scope ?_ | refine K_label ?_ | (refine K_region (id := 29) ?_; refine mv ?_; refine mv ?_; (refine tS ?_ ?_ <;> intro hc) <;> (refine mv ?_; (first | refine off ?_ | refine mv ?_); (first | refine off ?_ | (first | refine lnB S ?_ | refine lnS S rfl rfl ?_)); (first | refine off ?_ | (first | refine cT ?_ | refine cF ?_ | (refine cS ?_ ?_ <;> intro hc))) <;> (refine vl ?_; refine mv ?_; (first | (refine off ?_; refine vl ?_; refine mv ?_; refine KO_nil ?_) | skip))))))
          · skip
            (refine KO_fn rfl rfl rfl rfl rfl ((awake_okS S.wf).mono ?_); rintro _ h ⟨rfl, x⟩) <;> (replace S := S.join0 x; clear x; refine vl ?_; refine mv ?_; refine KO_nil ?_)
            all_goals (repeat' (first | refine K_seq ?_ | refine k_cond rfl ?_ | refine K_skip ?_ | refine K_exit ?_ | refine k_block ?_ | refine K_scope ?_ | refine K_label ?_ | (refine K_region (id := 29) ?_; refine mv ?_; refine mv ?_; (refine tS ?_ ?_ <;> intro hc) <;> (refine mv ?_; (first | refine off ?_ | refine mv ?_); (first | refine off ?_ | (first | refine lnB S ?_ | refine lnS S rfl rfl ?_)); (first | refine off ?_ | (first | refine cT ?_ | refine cF ?_ | (refine cS ?_ ?_ <;> intro hc))) <;> (refine vl ?_; refine mv ?_; (first | (refine off ?_; refine vl ?_; refine mv ?_; refine KO_nil ?_) | skip))))))
            refine K_ret ⟨_, rfl, ?_⟩
            rfl
          · exact absurd (hself (by assumption)) (by omega)
          · skip
            (refine KO_fn rfl rfl rfl rfl rfl ((awake_okS S.wf).mono ?_); rintro _ h ⟨rfl, x⟩) <;> (replace S := S.join0 x; clear x; refine vl ?_; refine mv ?_; refine KO_nil ?_)
            all_goals (repeat' (first | refine K_seq ?_ | refine k_cond rfl ?_ | refine K_skip ?_ | refine K_exit ?_ | refine k_block ?_ | refine K_scope ?_ | refine K_label ?_))
            refine K_ret ⟨_, rfl, ?_⟩
            rfl
    · have hp2 : ¬ ∃ Q, Pth r yn Q xn := fun ⟨Q, q⟩ => hp ⟨_, q.rev⟩
      have hxy : xn ≠ yn := fun e => hp ⟨[xn], e ▸ .one⟩
      have hnil := (Rd.none_ hB 1 : RdL hB (.slice none 0 0) 1 eS [])
      (refine KO_fn rfl rfl rfl rfl rfl ((chainN_ok S.wf (hbk.ext w S.ext) H xn yn (.inr hp)).mono ?_); rintro _ h ⟨rfl, x⟩) <;> (replace S := S.join0 x; clear x; refine mv ?_; refine vl ?_; refine vl ?_; refine mv ?_; refine mv ?_; refine KO_nil ?_)
      all_goals (repeat' (first | refine K_seq ?_ | refine k_cond rfl ?_ | refine K_skip ?_ | refine K_exit ?_ | refine k_block ?_ | refine K_scope ?_ | refine K_label ?_ | (refine K_region (id := 10) ?_; refine mv ?_; refine mv ?_; refine mv ?_; skip) | (refine K_region (id := 11) ?_; refine mv ?_; refine mv ?_; refine mv ?_; skip)))
      (refine KO_fn rfl rfl rfl rfl rfl ((chainN_ok S.wf (hbk.ext w S.ext) H yn xn (.inr hp2)).mono ?_); rintro _ h ⟨rfl, x⟩) <;> (replace S := S.join0 x; clear x; refine mv ?_; refine vl ?_; refine vl ?_; refine mv ?_; refine mv ?_; refine KO_nil ?_)
      all_goals (repeat' (first | refine K_seq ?_ | refine k_cond rfl ?_ | refine K_skip ?_ | refine K_exit ?_ | refine k_block ?_ | refine K_scope ?_ | refine K_label ?_ | (refine K_region (id := 11) ?_; refine mv ?_; refine mv ?_; refine mv ?_; skip) | (refine K_region (id := 12) ?_; refine mv ?_; refine mv ?_; refine vl ?_; refine mv ?_; (first | refine off ?_ | refine mv ?_); (first | refine off ?_ | (first | refine lnB S ?_ | refine lnS S rfl rfl ?_)); (first | refine off ?_ | refine mv ?_); (first | refine off ?_ | (first | refine lnB S ?_ | refine lnS S rfl rfl ?_)); (first | refine off ?_ | (first | refine cT ?_ | refine cF ?_ | (refine cS ?_ ?_ <;> intro hc))) <;> (refine vl ?_; refine mv ?_; (first | refine off ?_ | refine mv ?_); (first | refine off ?_ | refine mv ?_); (first | refine off ?_ | (first | refine lnB S ?_ | refine lnS S rfl rfl ?_)); (first | refine off ?_ | (first | refine cT ?_ | refine cF ?_ | (refine cS ?_ ?_ <;> intro hc))) <;> ((first | refine off ?_ | refine vl ?_); refine vl ?_; refine KO_nil ?_))) | (refine K_region (id := 14) ?_; refine mv ?_; refine mv ?_; (first | refine off ?_ | refine mv ?_); (first | refine off ?_ | (first | refine ixB S ?_ | refine ixS2 S rfl rfl ?_)); (first | refine off ?_ | (first | refine lB S rfl rfl ?_ | refine lES2 S rfl rfl ?_ | refine lEB S ?_ | refine lH S ?_)); (first | refine off ?_ | refine mv ?_); (first | refine off ?_ | (refine tS ?_ ?_ <;> intro hc)) <;> ((first | refine off ?_ | refine mv ?_); (first | refine off ?_ | refine mv ?_); (first | refine off ?_ | refine mv ?_); (first | refine off ?_ | (first | refine lnB S ?_ | refine lnS S rfl rfl ?_)); (first | refine off ?_ | (first | refine sb ?_ | refine vl ?_)); (first | refine off ?_ | (first | refine ixB S ?_ | refine ixS2 S rfl rfl ?_)); (first | refine off ?_ | (first | refine lB S rfl rfl ?_ | refine lES2 S rfl rfl ?_ | refine lEB S ?_ | refine lH S ?_)); (first | refine off ?_ | refine mv ?_); (first | refine off ?_ | (refine tS ?_ ?_ <;> intro hc)) <;> ((first | refine off ?_ | refine vl ?_); refine vl ?_; refine KO_nil ?_))) | (refine K_region (id := 16) ?_; refine mv ?_; refine KO_nil ?_)))
      refine k_loop (σ := Nat) (fun i h' => Hs hB h' []) (fun i => 1 - i) (fun i => [(9, .pointer (some ⟨b9, 0, none⟩)), (10, .pointer (some ⟨p, 0, none⟩)), (14, str xn), (15, str yn), (16, .slice none 0 0), (17, .bool false), (20, .int .i64 1)]) 1 (by repeat (first | exact Ks.le_nil _ | refine Ks.le_cons rfl ?_ | refine Ks.le_int ?_)) ?_ ?_
      · exact S
      clear S
      rintro i h S
      all_goals (repeat' (first | refine K_seq ?_ | refine k_cond rfl ?_ | refine K_skip ?_ | refine K_exit ?_ | refine k_block ?_ | refine K_scope ?_ | refine K_label ?_ | (refine K_region (id := 17) ?_; refine mv ?_; refine mv ?_; (first | refine lnB S ?_ | refine lnS S rfl rfl ?_); (first | refine cT ?_ | refine cF ?_ | (refine cS ?_ ?_ <;> intro hc)) <;> (refine KO_nil ?_))))
      skip
      all_goals (repeat' (first | refine K_seq ?_ | refine k_cond rfl ?_ | refine K_skip ?_ | refine K_exit ?_ | refine k_block ?_ | refine K_scope ?_ | refine K_label ?_ | (refine K_region (id := 21) ?_; refine mv ?_; refine KO_nil ?_)))
      refine k_loop (σ := Nat) (fun i h' => Hs hB h' [] ∧ i ≤ gs.length) (fun i => gs.length - i) (fun i => [(9, .pointer (some ⟨b9, 0, none⟩)), (10, .pointer (some ⟨p, 0, none⟩)), (14, str xn), (15, str yn), (16, .slice none 0 0), (17, .bool false), (21, .int .i64 i)]) 0 (by repeat (first | exact Ks.le_nil _ | refine Ks.le_cons rfl ?_ | refine Ks.le_int ?_)) ?_ ?_
      · exact ⟨S, Nat.zero_le _⟩
      clear S
      rintro i h ⟨S, g1⟩
      all_goals (repeat' (first | refine K_seq ?_ | refine k_cond rfl ?_ | refine K_skip ?_ | refine K_exit ?_ | refine K_scope ?_ | refine K_label ?_ | (refine K_region (id := 22) ?_; refine mv ?_; (first | refine vl ?_ | refine fB S ?_ | refine fS S rfl rfl ?_ | refine fA ?_); (first | refine lB S rfl rfl ?_ | refine lES2 S rfl rfl ?_ | refine lEB S ?_ | refine lH S ?_); (first | refine lnB S ?_ | refine lnS S rfl rfl ?_); (first | refine cT ?_ | refine cF ?_ | (refine cS ?_ ?_ <;> intro hc)) <;> (refine KO_nil ?_))))
      · have hil : i < gs.length := by omega
        have hkz := hkn (i : Int) (by omega)
        simp only [Int.toNat_natCast] at hkz
        (repeat (refine K_seq ?_)); first | refine K_join1 (σ := Unit) (fun _ h' => Hs hB h' []) (fun _ => [(9, .pointer (some ⟨b9, 0, none⟩)), (10, .pointer (some ⟨p, 0, none⟩)), (14, str xn), (15, str yn), (16, .slice none 0 0), (17, .bool false), (21, .int .i64 i)]) ?_ ?_ | refine K_cut (σ := Unit) (fun _ h' => Hs hB h' []) (fun _ => [(9, .pointer (some ⟨b9, 0, none⟩)), (10, .pointer (some ⟨p, 0, none⟩)), (14, str xn), (15, str yn), (16, .slice none 0 0), (17, .bool false), (21, .int .i64 i)]) ?_ ?_
        · all_goals (repeat' (first | refine K_seq ?_ | refine k_cond rfl ?_ | refine K_skip ?_ | refine K_exit ?_ | refine k_block ?_ | refine K_scope ?_ | refine K_label ?_ | (refine K_region (id := 24) ?_; (first | refine vl ?_ | refine fB S ?_ | refine fS S rfl rfl ?_ | refine fA ?_); (first | refine lB S rfl rfl ?_ | refine lES2 S rfl rfl ?_ | refine lEB S ?_ | refine lH S ?_); refine mv ?_; (first | refine ixB S ?_ | refine ixS2 S rfl rfl ?_); (first | refine vl ?_ | refine fB S ?_ | refine fS S rfl rfl ?_ | refine fA ?_); (first | refine lB S rfl rfl ?_ | refine lES2 S rfl rfl ?_ | refine lEB S ?_ | refine lH S ?_); refine mv ?_; refine KO_nil ?_)))
          simp only [Int.toNat_natCast]
          generalize hzn : (gs.getD i default).name = zn at *
          all_goals (repeat' (first | refine K_seq ?_ | refine k_cond rfl ?_ | refine K_skip ?_ | refine K_exit ?_ | refine k_block ?_ | refine K_scope ?_ | refine K_label ?_ | (refine K_region (id := 25) ?_; refine mv ?_; refine mv ?_; (refine tS ?_ ?_ <;> intro hc) <;> (refine mv ?_; (first | refine off ?_ | refine mv ?_); (first | refine off ?_ | refine mv ?_); (first | refine off ?_ | refine mv ?_); (first | (refine off ?_; (first | refine off ?_ | (first | refine lnB S ?_ | refine lnS S rfl rfl ?_)); (first | refine off ?_ | (first | refine cT ?_ | refine cF ?_ | (refine cS ?_ ?_ <;> intro hc))) <;> (refine vl ?_; refine KO_nil ?_)) | skip)))))
          · exact ⟨(), S, ((by repeat (first | exact Ks.le_nil _ | refine Ks.le_cons rfl ?_ | refine Ks.le_int ?_)))⟩
          · (refine KO_fn rfl rfl rfl rfl rfl ((common_ok S.wf (hbk.ext w S.ext) H xn zn).mono ?_); rintro uc h ⟨lc, x, c1, c2⟩) <;> (replace S := S.join1 x; clear x; (first | refine off ?_ | (first | refine lnB S ?_ | refine lnS S rfl rfl ?_)); (first | refine off ?_ | (first | refine cT ?_ | refine cF ?_ | (refine cS ?_ ?_ <;> intro hc))) <;> (refine vl ?_; refine KO_nil ?_))
            all_goals (repeat' (first | refine K_seq ?_ | refine k_cond rfl ?_ | refine K_skip ?_ | refine K_exit ?_ | refine k_block ?_ | refine K_scope ?_ | refine K_label ?_ | (refine K_region (id := 25) ?_; refine mv ?_; refine mv ?_; (refine tS ?_ ?_ <;> intro hc) <;> (refine mv ?_; (first | refine off ?_ | refine mv ?_); (first | refine off ?_ | refine mv ?_); (first | refine off ?_ | refine mv ?_); (first | (refine off ?_; (first | refine off ?_ | (first | refine lnB S ?_ | refine lnS S rfl rfl ?_)); (first | refine off ?_ | (first | refine cT ?_ | refine cF ?_ | (refine cS ?_ ?_ <;> intro hc))) <;> (refine vl ?_; refine KO_nil ?_)) | skip)))))
            · exact ⟨(), S.tail, ((by repeat (first | exact Ks.le_nil _ | refine Ks.le_cons rfl ?_ | refine Ks.le_int ?_)))⟩
            · have hsp : spk r xn zn := comF_spk.1 (by rw [← c1]; omega)
              have hp3 : ¬ ∃ Q, Pth r zn Q yn := fun ⟨Q, q⟩ => hp ⟨_, q.cons hsp⟩
              skip
              all_goals (repeat' (first | refine K_seq ?_ | refine k_cond rfl ?_ | refine K_skip ?_ | refine K_exit ?_ | refine k_block ?_ | refine K_scope ?_ | refine K_label ?_ | (refine K_region (id := 26) ?_; refine mv ?_; refine mv ?_; refine mv ?_; skip)))
              (refine KO_fn rfl rfl rfl rfl rfl ((chainN_ok S.wf (hbk.ext w S.ext) H zn yn (.inr hp3)).mono ?_); rintro _ h ⟨rfl, x⟩) <;> (replace S := S.join0 x; clear x; refine mv ?_; refine vl ?_; refine vl ?_; refine mv ?_; refine mv ?_; refine KO_nil ?_)
              all_goals (repeat' (first | refine K_seq ?_ | refine k_cond rfl ?_ | refine K_skip ?_ | refine K_exit ?_ | refine k_block ?_ | refine K_scope ?_ | refine K_label ?_ | (refine K_region (id := 26) ?_; refine mv ?_; refine mv ?_; refine mv ?_; skip) | (refine K_region (id := 27) ?_; refine mv ?_; refine mv ?_; refine vl ?_; refine mv ?_; (first | refine off ?_ | refine mv ?_); (first | refine off ?_ | refine mv ?_); (first | refine off ?_ | refine mv ?_); (first | refine off ?_ | (first | refine lnB S ?_ | refine lnS S rfl rfl ?_)); (first | refine off ?_ | refine mv ?_); (first | refine off ?_ | (first | refine lnB S ?_ | refine lnS S rfl rfl ?_)); (first | refine off ?_ | (first | refine sb ?_ | refine vl ?_)); (first | refine off ?_ | (first | refine cT ?_ | refine cF ?_ | (refine cS ?_ ?_ <;> intro hc))) <;> ((first | refine off ?_ | refine vl ?_); refine vl ?_; refine KO_nil ?_))))
              exact ⟨(), S.drop, ((by repeat (first | exact Ks.le_nil _ | refine Ks.le_cons rfl ?_ | refine Ks.le_int ?_)))⟩
        · clear S
          rintro - h S
          skip
          all_goals (repeat' (first | refine K_seq ?_ | refine k_cond rfl ?_ | refine K_skip ?_ | refine K_exit ?_ | refine k_block ?_ | refine K_scope ?_ | refine K_label ?_ | (refine K_region (id := 23) ?_; refine mv ?_; (first | refine ad ?_ | refine vl ?_); refine mv ?_; refine KO_nil ?_)))
          refine ⟨i + 1, ?_, ?_, (by repeat (first | exact Ks.le_nil _ | refine Ks.le_cons rfl ?_ | refine Ks.le_int ?_))⟩
          · show gs.length - (i + 1) < gs.length - i; omega
          · exact ⟨S, by omega⟩
      · skip
        all_goals (repeat' (first | refine K_seq ?_ | refine k_cond rfl ?_ | refine K_skip ?_ | refine K_exit ?_ | refine k_block ?_ | refine K_scope ?_ | refine K_label ?_ | (refine K_region (id := 29) ?_; refine mv ?_; refine mv ?_; (refine tS ?_ ?_ <;> intro hc) <;> (refine mv ?_; (first | refine off ?_ | refine mv ?_); (first | refine off ?_ | (first | refine lnB S ?_ | refine lnS S rfl rfl ?_)); (first | refine off ?_ | (first | refine cT ?_ | refine cF ?_ | (refine cS ?_ ?_ <;> intro hc))) <;> (refine vl ?_; refine mv ?_; (first | (refine off ?_; refine vl ?_; refine mv ?_; refine KO_nil ?_) | skip))))))
        · exact absurd (by assumption) hxy
        · skip
          (refine KO_fn rfl rfl rfl rfl rfl ((awake_okS S.wf).mono ?_); rintro _ h ⟨rfl, x⟩) <;> (replace S := S.join0 x; clear x; refine vl ?_; refine mv ?_; refine KO_nil ?_)
          all_goals (repeat' (first | refine K_seq ?_ | refine k_cond rfl ?_ | refine K_skip ?_ | refine K_exit ?_ | refine k_block ?_ | refine K_scope ?_ | refine K_label ?_ | (refine K_region (id := 29) ?_; refine mv ?_; refine mv ?_; (refine tS ?_ ?_ <;> intro hc) <;> (refine mv ?_; (first | refine off ?_ | refine mv ?_); (first | refine off ?_ | (first | refine lnB S ?_ | refine lnS S rfl rfl ?_)); (first | refine off ?_ | (first | refine cT ?_ | refine cF ?_ | (refine cS ?_ ?_ <;> intro hc))) <;> (refine vl ?_; refine mv ?_; (first | (refine off ?_; refine vl ?_; refine mv ?_; refine KO_nil ?_) | skip))))))
          refine K_ret ⟨_, rfl, ?_⟩
          rfl
end Go.Proofs.Xx

/-
  The core of BookChains.
-/
namespace Go.Proofs.Xx
open Go Go.Proofs
set_option linter.unusedSimpArgs false
set_option linter.unusedVariables false
set_option linter.unusedSectionVars false
set_option maxRecDepth 100000

theorem AR.u8 {h : AH} {n : Nat} {r : List Value} (a : AR Tryz.prog h n 5 r) : ∃ x : Nat, r = [.int .u8 x] ∧ x < 256 := by
  obtain ⟨x, hx, hw⟩ := a.int1 (k := .u8) (by kernel_rfl)
  have : 0 ≤ x ∧ x < 256 := by
    simp [Lit.wf, IntKind.min, IntKind.max, IntKind.signed, IntKind.bits] at hw
    omega
  exact ⟨x.toNat, by rw [hx, Int.toNat_of_nonneg this.1], by omega⟩
theorem bookChains_core [Flag] (h : AH) (us : List Value) (w : WfH h) (a : ArgsR Tryz.prog h Tryz.f6.params.toList us) : Fn Tryz.prog Xh 6 us h (fun x _ => x = .bool true) := by
  rw [show Tryz.f6.params.toList = [37, 38, 5, 5] by kernel_rfl] at a
  obtain ⟨n0, r0, us, rfl, a0, a⟩ := a.cons_inv
  obtain ⟨n1, r1, us, rfl, a1, a⟩ := a.cons_inv
  obtain ⟨n2, r2, us, rfl, a2, a⟩ := a.cons_inv
  obtain ⟨n3, r3, us, rfl, a3, a⟩ := a.cons_inv
  obtain rfl := a.nil_inv
  obtain ⟨va, la, rfl, ra, la1, -, la2⟩ := a0.e16s
  obtain ⟨vb, lb, rfl, rb, lb1, -, lb2⟩ := a1.e8s
  obtain ⟨na, rfl, hna⟩ := a2.u8
  obtain ⟨nb, rfl, hnb⟩ := a3.u8
  unfold maxLen at la1 lb1
  exact bookChains_true w va vb la lb na nb ra rb (by omega) (by omega) la2 lb2 hna hnb
end Go.Proofs.Xx

/-
  What lies in every world that fits: a number for the longest needle of a quick search; the functions that are known.
-/
namespace Go.Proofs.Xx
open Go Go.RowKit Go.Proofs
theorem Xh_none [Flag] (f : FuncId) (h1 : f ≠ 19) (h2 : f ≠ 203) (h3 : f ≠ 182) (h4 : f ≠ 222) (h5 : f ≠ 184) (h6 : f ≠ 194) (h7 : f ≠ 135) (h8 : f ≠ 187) (h9 : f ≠ 88) (us : List Value) (h : AH) : Xh f us h = none := by
  have e : ∀ n, f ≠ n → Nat.beq f n = false := fun n q => by rw [Bool.eq_false_iff]; intro q'; exact q (Nat.eq_of_beq_eq_true q')
  unfold Xh withDigits withKnown Xd withIns X0 withIdx withOvl withCmp withBytes externNoEscape
  simp only [e _ h1, e _ h2, e _ h3, e _ h4, e _ h5, e _ h6, e _ h7, e _ h8, e _ h9]
theorem max_there {W : World} (h : W.ShapedOpen Tryz.prog) : 1 < W.heap.size ∧ ∃ m el fr, W.heap[0]? = some (.cells #[.int .i64 m] el fr) := by
  have h0 : ((begin Tryz.prog (fun _ _ => 0) default).world.heap[0]?).bind Obj.row? = some (#[.int .i64 0], 3) := by kernel_rfl
  obtain ⟨m, hm⟩ := cell_of_shapedOpen_int h (g := 0) (t := 3) (of_decide_eq_true (by kernel_rfl)) h0 rfl (by kernel_rfl) (by kernel_rfl) Tryz.underlying3
  obtain ⟨cs, hh, hs, -⟩ := h.1 0 _ 3 (of_decide_eq_true (by kernel_rfl)) h0
  refine ⟨?_, m, 3, (0, 0), ?_⟩
  · have h1 : (((begin Tryz.prog (fun _ _ => 0) default).world.heap[1]?).bind Obj.row?).isSome = true := by kernel_rfl
    obtain ⟨⟨z, t⟩, h1⟩ := Option.isSome_iff_exists.1 h1
    obtain ⟨cs, hh, -⟩ := h.1 1 z t (of_decide_eq_true (by kernel_rfl)) h1
    exact (Array.getElem?_eq_some_iff.1 hh).1
  · rw [hh]
    have : cs = #[.int .i64 m] := by
      simp only [World.cell?, hh] at hm
      obtain ⟨l⟩ := cs
      match l, hs, hm with
      | [x], _, hm => simp at hm; rw [hm]
      | [], hs, _ => cases hs
      | _ :: _ :: _, hs, _ => simp at hs
    rw [this]
theorem cells_there {W : World} (h : W.ShapedOpen Tryz.prog) : ∃ (k : Nat) (cc : Array Value) (el : TypeId) (fr : Nat × Nat), W.heap[k]? = some (.cells cc el fr) := by
  obtain ⟨-, m, el, fr, q⟩ := max_there h
  exact ⟨0, _, el, fr, q⟩
theorem glob_there [Flag] (hf : Flag.b = false) {W : World} (h : W.ShapedOpen Tryz.prog) : Glob.ok W.heap.size W.heap :=
  ⟨(max_there h).1, (max_there h).2, fun q => (by rw [hf] at q; cases q)⟩
end Go.Proofs.Xx
