/-
  Pairs in order; the search for a pair's place.
-/
import Derived.Test.YtidmdnenlgjpeaaGreatDoorM9

namespace Go.Proofs.Xx
open Go Go.Proofs
set_option linter.unusedSimpArgs false
set_option linter.unusedVariables false
set_option maxRecDepth 100000

theorem cmpB (a b : List UInt8) : (Lib.compareBytes a b < 0 ↔ sLt a b) ∧ (Lib.compareBytes a b = 0 ↔ a = b) := by
  induction a generalizing b with
  | nil =>
    cases b with
    | nil => exact ⟨⟨fun h => by simp [Lib.compareBytes] at h, fun h => absurd h (sLt_nil _)⟩, by simp [Lib.compareBytes]⟩
    | cons y b => exact ⟨⟨fun _ => nil_sLt _ _, fun _ => by simp [Lib.compareBytes]⟩, by simp [Lib.compareBytes]⟩
  | cons x a ih =>
    cases b with
    | nil => exact ⟨⟨fun h => by simp [Lib.compareBytes] at h, fun h => absurd h (sLt_nil _)⟩, by simp [Lib.compareBytes]⟩
    | cons y b =>
      obtain ⟨i1, i2⟩ := ih b
      have hc : Lib.compareBytes (x :: a) (y :: b) = if x < y then -1 else if y < x then 1 else Lib.compareBytes a b := rfl
      rw [sLt_cons, hc]
      by_cases h1 : x < y
      · rw [if_pos h1]
        refine ⟨⟨fun _ => .inl h1, fun _ => by omega⟩, fun q => by omega, fun q => ?_⟩
        injection q with q _; subst q; exact absurd h1 (UInt8.lt_irrefl _)
      · rw [if_neg h1]
        by_cases h2 : y < x
        · rw [if_pos h2]
          refine ⟨⟨fun q => by omega, fun q => ?_⟩, fun q => by omega, fun q => ?_⟩
          · rcases q with q | ⟨rfl, -⟩
            · exact absurd q h1
            · exact absurd h2 (UInt8.lt_irrefl _)
          · injection q with q _; subst q; exact absurd h2 (UInt8.lt_irrefl _)
        · rw [if_neg h2]
          have e : x = y := UInt8.le_antisymm (UInt8.not_lt.1 h2) (UInt8.not_lt.1 h1)
          subst e
          refine ⟨⟨fun q => .inr ⟨rfl, i1.1 q⟩, fun q => ?_⟩, ⟨fun q => by rw [i2.1 q], fun q => i2.2 (by injection q)⟩⟩
          rcases q with q | q
          · exact absurd q h1
          · exact i1.2 q.2
/-- One pair stands before another. -/
def bef (x y : Ti) : Prop := sLt x.a y.a ∨ (x.a = y.a ∧ sLt x.b y.b)
theorem bef_irr (x : Ti) : ¬ bef x x := fun h => by rcases h with h | h; exact sLt_irr _ h; exact sLt_irr _ h.2
theorem bef_trans {x y z : Ti} (h1 : bef x y) (h2 : bef y z) : bef x z := by
  rcases h1 with h1 | ⟨e1, h1⟩
  · rcases h2 with h2 | ⟨e2, h2⟩
    · exact .inl (sLt_trans h1 h2)
    · exact .inl (e2 ▸ h1)
  · rcases h2 with h2 | ⟨e2, h2⟩
    · exact .inl (e1 ▸ h2)
    · exact .inr ⟨e1.trans e2, sLt_trans h1 h2⟩
theorem bef_tri (x y : Ti) : bef x y ∨ (x.a = y.a ∧ x.b = y.b) ∨ bef y x := by
  rcases sLt_tri x.a y.a with h | h | h
  · exact .inl (.inl h)
  · rcases sLt_tri x.b y.b with g | g | g
    · exact .inl (.inr ⟨h, g⟩)
    · exact .inr (.inl ⟨h, g⟩)
    · exact .inr (.inr (.inr ⟨h.symm, g⟩))
  · exact .inr (.inr (.inl h))
/-- Ties in order. -/
def TS (ts : List Ti) : Prop := ts.Pairwise bef
theorem TS.lt {ts : List Ti} (h : TS ts) {i j : Nat} (hij : i < j) (hj : j < ts.length) : bef (ts.getD i default) (ts.getD j default) := by
  have := List.pairwise_iff_getElem.1 h i j (by omega) hj hij
  rw [List.getD_eq_getElem?_getD, List.getD_eq_getElem?_getD, List.getElem?_eq_getElem hj, List.getElem?_eq_getElem (show i < ts.length by omega)]
  exact this
/-- i is the place of y in l. -/
def Plc (l : List Ti) (y : Ti) (i : Nat) : Prop := i ≤ l.length ∧ (∀ j, j < i → bef (l.getD j default) y) ∧ ∀ j, i ≤ j → j < l.length → ¬ bef (l.getD j default) y
variable [Flag]
theorem cmps_ok {h : AH} (a b : List UInt8) : Fn Tryz.prog Xh 163 [str a, str b] h (fun v h' => (∃ c, v = .int .i64 c ∧ (c < 0 ↔ sLt a b) ∧ (c = 0 ↔ a = b)) ∧ h' = h) := by
  refine Fn_K rfl Tryz.func163 rfl rfl ?_
  all_goals (repeat' (first | refine K_seq ?_ | refine k_cond rfl ?_ | refine K_skip ?_ | refine K_exit ?_ | refine k_block ?_ | refine K_scope ?_ | refine K_label ?_ | (refine K_region (id := 0) ?_; refine mv ?_; refine KO_nil ?_) | (refine K_region (id := 1) ?_; refine mv ?_; refine mv ?_)))
  (refine KO_fn rfl rfl rfl rfl rfl (((Fn_known (R := fun v h' => v = .int .i64 (Lib.compareBytes a b) ∧ h' = h) rfl ⟨rfl, rfl⟩)).mono ?_); rintro _ _ ⟨rfl, rfl⟩) <;> (refine mv ?_; refine KO_nil ?_)
  all_goals (repeat' (first | refine K_seq ?_ | refine k_cond rfl ?_ | refine K_skip ?_ | refine K_exit ?_ | refine k_block ?_ | refine K_scope ?_ | refine K_label ?_))
  refine K_ret ⟨_, rfl, ?_⟩
  exact ⟨⟨_, rfl, cmpB a b⟩, rfl⟩
theorem cmp_ok {h : AH} (a b : List UInt8) : Fn Tryz.prog Xh 130 [str a, str b] h (fun v h' => (∃ c, v = .int .i64 c ∧ (c < 0 ↔ sLt a b) ∧ (c = 0 ↔ a = b)) ∧ h' = h) := by
  refine Fn_K rfl Tryz.func130 rfl rfl ?_
  all_goals (repeat' (first | refine K_seq ?_ | refine k_cond rfl ?_ | refine K_skip ?_ | refine K_exit ?_ | refine k_block ?_ | refine K_scope ?_ | refine K_label ?_ | (refine K_region (id := 0) ?_; refine mv ?_; refine KO_nil ?_) | (refine K_region (id := 1) ?_; refine mv ?_; refine mv ?_)))
  (refine KO_fn rfl rfl rfl rfl rfl ((cmps_ok a b).mono ?_); rintro _ _ ⟨⟨c, rfl, q⟩, rfl⟩) <;> (refine mv ?_; refine KO_nil ?_)
  all_goals (repeat' (first | refine K_seq ?_ | refine k_cond rfl ?_ | refine K_skip ?_ | refine K_exit ?_ | refine k_block ?_ | refine K_scope ?_ | refine K_label ?_))
  refine K_ret ⟨_, rfl, ?_⟩
  exact ⟨⟨c, rfl, q⟩, rfl⟩
theorem order_ok {h0 : AH} (w : WfH h0) (x y : Ti) : Fn Tryz.prog Xh 82 [tiV x, tiV y] h0 (fun v h' => (∃ c, v = .int .i64 c ∧ (c < 0 ↔ bef x y) ∧ (c = 0 ↔ x.a = y.a ∧ x.b = y.b)) ∧ Hs h0 h' []) := by
  have S := Hs.start w
  unfold tiV
  refine Fn_K rfl Tryz.func82 rfl rfl ?_
  all_goals (repeat' (first | refine K_seq ?_ | refine k_cond rfl ?_ | refine K_skip ?_ | refine K_exit ?_ | refine k_block ?_ | refine K_scope ?_ | refine K_label ?_ | (refine K_region (id := 0) ?_; (refine bx S ?_; clear S; intro b h S); (refine bx S ?_; clear S; intro b h S); refine mv ?_; refine KO_nil ?_) | (refine K_region (id := 1) ?_; (first | refine vl ?_ | refine fB S ?_ | refine fS S rfl rfl ?_ | refine fA ?_); (first | refine lB S rfl rfl ?_ | refine lES2 S rfl rfl ?_ | refine lEB S ?_ | refine lH S ?_); (first | refine vl ?_ | refine fB S ?_ | refine fS S rfl rfl ?_ | refine fA ?_); (first | refine lB S rfl rfl ?_ | refine lES2 S rfl rfl ?_ | refine lEB S ?_ | refine lH S ?_))))
  (refine KO_fn rfl rfl rfl rfl rfl ((cmp_ok x.a y.a).mono ?_); rintro _ _ ⟨⟨c, rfl, q1, q2⟩, rfl⟩) <;> (refine mv ?_; refine KO_nil ?_)
  all_goals (repeat' (first | refine K_seq ?_ | refine k_cond rfl ?_ | refine K_skip ?_ | refine K_exit ?_ | refine k_block ?_ | refine K_scope ?_ | refine K_label ?_ | (refine K_region (id := 2) ?_; refine mv ?_; (first | refine cT ?_ | refine cF ?_ | (refine cS ?_ ?_ <;> intro hc)) <;> (refine KO_nil ?_)) | (refine K_region (id := 3) ?_; refine mv ?_; refine mv ?_; refine KO_nil ?_) | (refine K_region (id := 4) ?_; (first | refine vl ?_ | refine fB S ?_ | refine fS S rfl rfl ?_ | refine fA ?_); (first | refine lB S rfl rfl ?_ | refine lES2 S rfl rfl ?_ | refine lEB S ?_ | refine lH S ?_); (first | refine vl ?_ | refine fB S ?_ | refine fS S rfl rfl ?_ | refine fA ?_); (first | refine lB S rfl rfl ?_ | refine lES2 S rfl rfl ?_ | refine lEB S ?_ | refine lH S ?_))))
  · refine K_ret ⟨_, rfl, ?_⟩
    refine ⟨⟨c, rfl, ?_, ?_⟩, S.drop⟩
    · unfold bef
      rw [q1]
      exact ⟨.inl, fun h => h.elim id fun h => absurd (q2.2 h.1) hc⟩
    · exact ⟨fun h => absurd h hc, fun h => q2.2 h.1⟩
  · (refine KO_fn rfl rfl rfl rfl rfl ((cmp_ok x.b y.b).mono ?_); rintro _ _ ⟨⟨d, rfl, q3, q4⟩, rfl⟩) <;> (refine mv ?_; refine KO_nil ?_)
    all_goals (repeat' (first | refine K_seq ?_ | refine k_cond rfl ?_ | refine K_skip ?_ | refine K_exit ?_ | refine k_block ?_ | refine K_scope ?_ | refine K_label ?_))
    refine K_ret ⟨_, rfl, ?_⟩
    have e := q2.1 (by omega)
    refine ⟨⟨d, rfl, ?_, ?_⟩, S.drop⟩
    · unfold bef
      rw [q3]
      exact ⟨fun h => .inr ⟨e, h⟩, fun h => h.elim (fun h => absurd (e ▸ h) (sLt_irr _)) (·.2)⟩
    · rw [q4]
      exact ⟨fun h => ⟨e, h⟩, (·.2)⟩
theorem pair_ok {h0 : AH} (w : WfH h0) (a b : List UInt8) (k : Int) : Fn Tryz.prog Xh 89 [str a, str b, .int .u8 k] h0 (fun v h' => v = tiV ⟨sMin a b, sMax a b, k⟩ ∧ Hs h0 h' []) := by
  have S := Hs.start w
  refine Fn_K rfl Tryz.func89 rfl rfl ?_
  all_goals (repeat' (first | refine K_seq ?_ | refine k_cond rfl ?_ | refine K_skip ?_ | refine K_exit ?_ | refine k_block ?_ | refine K_scope ?_ | refine K_label ?_ | (refine K_region (id := 0) ?_; (refine al S ?_; clear S; intro b h S); refine KO_nil ?_) | (refine K_region (id := 1) ?_; refine mv ?_; refine mv ?_; refine mnS ?_; refine mv ?_; refine mv ?_; refine mxS ?_; refine mv ?_; refine vl ?_; (first | (refine sB S rfl rfl ?_; clear S; intro h S) | (refine sE2 S rfl rfl ?_; clear S; intro h S)); refine KO_nil ?_)))
  refine K_ret ⟨_, ret_cell S rfl (by first | exact .here | exact .there .here | exact .there (.there .here) | exact .there (.there (.there .here)) | exact .there (.there (.there (.there .here))) | exact .there (.there (.there (.there (.there .here))))) (by exact rfl) (by exact rfl), ?_⟩
  exact ⟨rfl, S.drop⟩
theorem bsearch_ok {h0 : AH} (w : WfH h0) {v : Value} {l : List Ti} (hr : RdL h0 v 3 eTi l) (hl : l.length ≤ 1000000) (hs : TS l) (y : Ti) :
    Fn Tryz.prog Xh 134 [v, tiV y, .func (.func 82) #[] #[]] h0 (fun u h' => (∃ (i : Nat) (f : Bool), u = .tuple #[.int .i64 i, .bool f] ∧ Plc l y i ∧ (f = true ↔ i < l.length ∧ (l.getD i default).a = y.a ∧ (l.getD i default).b = y.b)) ∧ Hs h0 h' []) := by
  have S := Hs.start w
  unfold tiV
  refine Fn_K rfl Tryz.func134 rfl rfl ?_
  all_goals (repeat' (first | refine K_seq ?_ | refine k_cond rfl ?_ | refine K_skip ?_ | refine K_exit ?_ | refine k_block ?_ | refine K_scope ?_ | refine K_label ?_ | (refine K_region (id := 0) ?_; (refine bx S ?_; clear S; intro b h S); refine mv ?_; refine mv ?_; refine KO_nil ?_) | (refine K_region (id := 1) ?_; refine mv ?_; (first | refine lnB S ?_ | refine lnS S rfl rfl ?_); refine mv ?_; refine KO_nil ?_) | (refine K_region (id := 2) ?_; refine mv ?_; refine mv ?_; refine mv ?_; refine KO_nil ?_)))
  replace S : Hs h0 h [.blk b (eTi y) 111] := S
  refine k_loop (σ := Nat × Nat) (fun (lo, hi) h' => Hs h0 h' [.blk b (eTi y) 111] ∧ lo ≤ hi ∧ hi ≤ l.length ∧ (∀ j, j < lo → bef (l.getD j default) y) ∧ (∀ j, hi ≤ j → j < l.length → ¬ bef (l.getD j default) y)) (fun (lo, hi) => hi - lo) (fun (lo, hi) => [(0, v), (2, .func (.func 82) #[] #[]), (4, .pointer (some ⟨b, 0, none⟩)), (8, .int .i64 l.length), (9, .int .i64 lo), (10, .int .i64 hi)]) (0, l.length) (by repeat (first | exact Ks.le_nil _ | refine Ks.le_cons rfl ?_ | refine Ks.le_int ?_)) ?_ ?_
  · exact ⟨S, Nat.zero_le _, Nat.le_refl _, fun j hj => absurd hj (Nat.not_lt_zero _), fun j h1 h2 => absurd h2 (by omega)⟩
  clear S
  rintro ⟨lo, hi⟩ h ⟨S, g1, g2, g3, g4⟩
  all_goals (repeat' (first | refine K_seq ?_ | refine k_cond rfl ?_ | refine K_skip ?_ | refine K_exit ?_ | refine k_block ?_ | refine K_scope ?_ | refine K_label ?_ | (refine K_region (id := 3) ?_; refine mv ?_; refine mv ?_; (first | refine cT ?_ | refine cF ?_ | (refine cS ?_ ?_ <;> intro hc)) <;> (refine KO_nil ?_)) | (refine K_region (id := 4) ?_; refine mv ?_; refine mv ?_; (first | refine ad ?_ | refine vl ?_); (first | refine cW ?_ | refine vl ?_); (first | refine sR1 ?_ | refine sR ?_); (first | refine cI ?_ | refine vl ?_); refine mv ?_; refine KO_nil ?_) | (refine K_draw (id := 5) ?_; refine mv ?_; refine mv ?_; refine mv ?_; (first | refine ixB S ?_ | refine ixS2 S rfl rfl ?_); (first | refine lB S rfl rfl ?_ | refine lES2 S rfl rfl ?_ | refine lEB S ?_ | refine lH S ?_); (first | refine lB S rfl rfl ?_ | refine lES2 S rfl rfl ?_ | refine lEB S ?_ | refine lH S ?_)) | (refine K_draw (id := 8) ?_; refine mv ?_; refine mv ?_; refine mv ?_; (first | refine cT ?_ | refine cF ?_ | (refine cS ?_ ?_ <;> intro hc)) <;> (refine mv ?_; (first | refine off ?_ | refine mv ?_); (first | refine off ?_ | refine mv ?_); (first | refine off ?_ | refine mv ?_); (first | refine off ?_ | (first | refine ixB S ?_ | refine ixS2 S rfl rfl ?_)); (first | refine off ?_ | (first | refine lB S rfl rfl ?_ | refine lES2 S rfl rfl ?_ | refine lEB S ?_ | refine lH S ?_)); (first | refine off ?_ | (first | refine lB S rfl rfl ?_ | refine lES2 S rfl rfl ?_ | refine lEB S ?_ | refine lH S ?_)); (first | (refine off ?_; (first | refine off ?_ | (first | refine cT ?_ | refine cF ?_ | (refine cS ?_ ?_ <;> intro hc))) <;> (refine vl ?_; refine mv ?_; refine mv ?_; refine KO_nil ?_)) | skip)))))
  · obtain ⟨mid, hm, hm2, hm3⟩ : ∃ mid : Nat, ((lo : Int) + hi) / 2 = mid ∧ lo ≤ mid ∧ mid < hi := ⟨(lo + hi) / 2, by omega, by omega, by omega⟩
    simp only [hm, Int.toNat_natCast]
    (refine KO_call rfl rfl rfl rfl ((order_ok S.wf (l.getD mid default) y).mono ?_); rintro _ h ⟨⟨c, rfl, e1, e2⟩, x⟩) <;> (replace S := S.join0 x; clear x; (first | refine cT ?_ | refine cF ?_ | (refine cS ?_ ?_ <;> intro hc)) <;> (refine KO_nil ?_))
    all_goals (repeat' (first | refine K_seq ?_ | refine k_cond rfl ?_ | refine K_skip ?_ | refine K_exit ?_ | refine k_block ?_ | refine K_scope ?_ | refine K_label ?_ | (refine K_region (id := 6) ?_; refine mv ?_; (first | refine ad ?_ | refine vl ?_); refine mv ?_; refine KO_nil ?_) | (refine K_region (id := 7) ?_; refine mv ?_; refine mv ?_; refine KO_nil ?_)))
    · refine ⟨(mid + 1, hi), ?_, ?_, (by repeat (first | exact Ks.le_nil _ | refine Ks.le_cons rfl ?_ | refine Ks.le_int ?_))⟩
      · show hi - (mid + 1) < hi - lo; omega
      · refine ⟨S, by omega, g2, fun j hj => ?_, g4⟩
        rcases Nat.lt_or_ge j mid with q | q
        · exact bef_trans (hs.lt q (by omega)) (e1.1 hc)
        · obtain rfl : j = mid := by omega
          exact e1.1 hc
    · refine ⟨(lo, mid), ?_, ?_, (by repeat (first | exact Ks.le_nil _ | refine Ks.le_cons rfl ?_ | refine Ks.le_int ?_))⟩
      · show mid - lo < hi - lo; omega
      · refine ⟨S, hm2, by omega, g3, fun j h1 h2 q => ?_⟩
        rcases Nat.lt_or_ge mid j with q2 | q2
        · exact hc (e1.2 (bef_trans (hs.lt q2 h2) q))
        · obtain rfl : j = mid := by omega
          exact hc (e1.2 q)
  · obtain rfl : hi = lo := by omega
    simp only [Int.toNat_natCast]
    (refine KO_call rfl rfl rfl rfl ((order_ok S.wf (l.getD hi default) y).mono ?_); rintro _ h ⟨⟨c, rfl, e1, e2⟩, x⟩) <;> (replace S := S.join0 x; clear x; (first | refine off ?_ | (first | refine cT ?_ | refine cF ?_ | (refine cS ?_ ?_ <;> intro hc))) <;> (refine vl ?_; refine mv ?_; refine mv ?_; refine KO_nil ?_))
    all_goals (all_goals (repeat' (first | refine K_seq ?_ | refine k_cond rfl ?_ | refine K_skip ?_ | refine K_exit ?_ | refine k_block ?_ | refine K_scope ?_ | refine K_label ?_)))
    all_goals (refine K_ret ⟨_, rfl, ?_⟩)
    · exact ⟨⟨hi, true, rfl, ⟨g2, g3, g4⟩, fun _ => ⟨by omega, e2.1 hc⟩, fun _ => rfl⟩, S.drop⟩
    · exact ⟨⟨hi, false, rfl, ⟨g2, g3, g4⟩, fun q => (by cases q), fun q => absurd (e2.2 q.2) hc⟩, S.drop⟩
  · obtain rfl : hi = lo := by omega
    all_goals (repeat' (first | refine K_seq ?_ | refine k_cond rfl ?_ | refine K_skip ?_ | refine K_exit ?_ | refine k_block ?_ | refine K_scope ?_ | refine K_label ?_))
    refine K_ret ⟨_, rfl, ?_⟩
    exact ⟨⟨hi, false, rfl, ⟨g2, g3, g4⟩, fun q => (by cases q), fun q => absurd q.1 (by omega)⟩, S.drop⟩
theorem place_ok {h0 : AH} (w : WfH h0) {p m : Nat} {vg vt : Value} {ts : List Ti} (hb : h0.get p = some (.cells [vg, vt, .map (some m)] 86 none false)) (hr : RdL h0 vt 3 eTi ts) (hl : ts.length ≤ 1000000) (hs : TS ts) (a b : List UInt8) :
    Fn Tryz.prog Xh 87 [.pointer (some ⟨p, 0, none⟩), str a, str b] h0 (fun u h' => (∃ (i : Nat) (f : Bool), u = .tuple #[.int .i64 i, .bool f] ∧ Plc ts ⟨sMin a b, sMax a b, 0⟩ i ∧ (f = true ↔ i < ts.length ∧ (ts.getD i default).a = sMin a b ∧ (ts.getD i default).b = sMax a b)) ∧ Hs h0 h' []) := by
  have S := Hs.start w
  refine Fn_K rfl Tryz.func87 rfl rfl ?_
  all_goals (repeat' (first | refine K_seq ?_ | refine k_cond rfl ?_ | refine K_skip ?_ | refine K_exit ?_ | refine k_block ?_ | refine K_scope ?_ | refine K_label ?_ | (refine K_region (id := 0) ?_; refine mv ?_; refine mv ?_; refine KO_nil ?_)))
  (repeat (refine K_seq ?_)); refine K_drawX (id := 1) [(4, (0, 1))] [some (p)] ?_; refine KX_cons ?_; (first | (refine mv ?_ <;> refine KO_nil ⟨⟨by (first | exact True.intro | exact Or.inl rfl | exact Or.inr rfl | exact Or.inr (congrArg some (blkOf_elA _ _ _ _)) | exact ⟨Or.inl rfl, rfl⟩ | exact ⟨Or.inr rfl, rfl⟩), rfl⟩, ?_⟩)); refine KX_cons ?_; (first | (refine vl ?_ <;> refine KO_nil ⟨⟨by (first | exact True.intro | exact Or.inl rfl | exact Or.inr rfl | exact Or.inr (congrArg some (blkOf_elA _ _ _ _)) | exact ⟨Or.inl rfl, rfl⟩ | exact ⟨Or.inr rfl, rfl⟩), rfl⟩, ?_⟩)); refine KX_cons ?_; (first | (refine vl ?_ <;> refine KO_nil ⟨⟨by (first | exact True.intro | exact Or.inl rfl | exact Or.inr rfl | exact Or.inr (congrArg some (blkOf_elA _ _ _ _)) | exact ⟨Or.inl rfl, rfl⟩ | exact ⟨Or.inr rfl, rfl⟩), rfl⟩, ?_⟩) | (refine fB S ?_ <;> refine KO_nil ⟨⟨by (first | exact True.intro | exact Or.inl rfl | exact Or.inr rfl | exact Or.inr (congrArg some (blkOf_elA _ _ _ _)) | exact ⟨Or.inl rfl, rfl⟩ | exact ⟨Or.inr rfl, rfl⟩), rfl⟩, ?_⟩) | (refine fS S rfl rfl ?_ <;> refine KO_nil ⟨⟨by (first | exact True.intro | exact Or.inl rfl | exact Or.inr rfl | exact Or.inr (congrArg some (blkOf_elA _ _ _ _)) | exact ⟨Or.inl rfl, rfl⟩ | exact ⟨Or.inr rfl, rfl⟩), rfl⟩, ?_⟩) | (refine fA ?_ <;> refine KO_nil ⟨⟨by (first | exact True.intro | exact Or.inl rfl | exact Or.inr rfl | exact Or.inr (congrArg some (blkOf_elA _ _ _ _)) | exact ⟨Or.inl rfl, rfl⟩ | exact ⟨Or.inr rfl, rfl⟩), rfl⟩, ?_⟩)); refine KX_cons ?_; (first | (refine vl ?_ <;> refine KO_nil ⟨⟨by (first | exact True.intro | exact Or.inl rfl | exact Or.inr rfl | exact Or.inr (congrArg some (blkOf_elA _ _ _ _)) | exact ⟨Or.inl rfl, rfl⟩ | exact ⟨Or.inr rfl, rfl⟩), rfl⟩, ?_⟩) | (refine fB S ?_ <;> refine KO_nil ⟨⟨by (first | exact True.intro | exact Or.inl rfl | exact Or.inr rfl | exact Or.inr (congrArg some (blkOf_elA _ _ _ _)) | exact ⟨Or.inl rfl, rfl⟩ | exact ⟨Or.inr rfl, rfl⟩), rfl⟩, ?_⟩) | (refine fS S rfl rfl ?_ <;> refine KO_nil ⟨⟨by (first | exact True.intro | exact Or.inl rfl | exact Or.inr rfl | exact Or.inr (congrArg some (blkOf_elA _ _ _ _)) | exact ⟨Or.inl rfl, rfl⟩ | exact ⟨Or.inr rfl, rfl⟩), rfl⟩, ?_⟩) | (refine fA ?_ <;> refine KO_nil ⟨⟨by (first | exact True.intro | exact Or.inl rfl | exact Or.inr rfl | exact Or.inr (congrArg some (blkOf_elA _ _ _ _)) | exact ⟨Or.inl rfl, rfl⟩ | exact ⟨Or.inr rfl, rfl⟩), rfl⟩, ?_⟩)); refine KX_cons ?_; (first | (refine lB S rfl rfl ?_ <;> refine KO_nil ⟨⟨by (first | exact True.intro | exact Or.inl rfl | exact Or.inr rfl | exact Or.inr (congrArg some (blkOf_elA _ _ _ _)) | exact ⟨Or.inl rfl, rfl⟩ | exact ⟨Or.inr rfl, rfl⟩), rfl⟩, ?_⟩) | (refine lES2 S rfl rfl ?_ <;> refine KO_nil ⟨⟨by (first | exact True.intro | exact Or.inl rfl | exact Or.inr rfl | exact Or.inr (congrArg some (blkOf_elA _ _ _ _)) | exact ⟨Or.inl rfl, rfl⟩ | exact ⟨Or.inr rfl, rfl⟩), rfl⟩, ?_⟩) | (refine lEB S ?_ <;> refine KO_nil ⟨⟨by (first | exact True.intro | exact Or.inl rfl | exact Or.inr rfl | exact Or.inr (congrArg some (blkOf_elA _ _ _ _)) | exact ⟨Or.inl rfl, rfl⟩ | exact ⟨Or.inr rfl, rfl⟩), rfl⟩, ?_⟩) | (refine lH S ?_ <;> refine KO_nil ⟨⟨by (first | exact True.intro | exact Or.inl rfl | exact Or.inr rfl | exact Or.inr (congrArg some (blkOf_elA _ _ _ _)) | exact ⟨Or.inl rfl, rfl⟩ | exact ⟨Or.inr rfl, rfl⟩), rfl⟩, ?_⟩)); refine KX_cons ?_; (first | (refine mv ?_ <;> refine KO_nil ⟨⟨by (first | exact True.intro | exact Or.inl rfl | exact Or.inr rfl | exact Or.inr (congrArg some (blkOf_elA _ _ _ _)) | exact ⟨Or.inl rfl, rfl⟩ | exact ⟨Or.inr rfl, rfl⟩), rfl⟩, ?_⟩)); refine KX_cons ?_; (first | (refine mv ?_ <;> refine KO_nil ⟨⟨by (first | exact True.intro | exact Or.inl rfl | exact Or.inr rfl | exact Or.inr (congrArg some (blkOf_elA _ _ _ _)) | exact ⟨Or.inl rfl, rfl⟩ | exact ⟨Or.inr rfl, rfl⟩), rfl⟩, ?_⟩))
  ((refine KX_cons ?_; first | refine KO_fn rfl rfl rfl rfl rfl ((pair_ok S.wf a b 0).mono ?_)); rintro _ h ⟨rfl, x⟩) <;> ((refine KO_nil ⟨⟨True.intro, ?_⟩, ?_⟩; (focus ((show keepsX _ _ _ _ _; simp only [keepsX]; (repeat' (first | exact True.intro | refine And.intro ?_ ?_)); all_goals (intro hw; first | exact True.intro | exact rfl | exact x.ext.old _ S.bB | exact x.ext.old _ (S.bR (by first | omega | grind)) | exact x.ext.old _ (S.bX (by assumption) (by assumption) (by first | omega | grind)) | exact x.ext.old _ (S.bY (by assumption) (by assumption)) | (refine x.ext.old _ ?_; assumption) | exact absurd hw (by decide +kernel)))))); replace S := S.join0 x; clear x)
  ((refine KX_cons ?_; first | refine KO_fn rfl rfl rfl rfl rfl ((bsearch_ok S.wf (hr.ext w S.ext) hl hs ⟨sMin a b, sMax a b, 0⟩).mono ?_)); rintro _ h ⟨⟨i, f, rfl, q1, q2⟩, x⟩) <;> ((refine KO_nil ⟨⟨True.intro, ?_⟩, ?_⟩; (focus ((show keepsX _ _ _ _ _; simp only [keepsX]; (repeat' (first | exact True.intro | refine And.intro ?_ ?_)); all_goals (intro hw; first | exact True.intro | exact rfl | exact x.ext.old _ S.bB | exact x.ext.old _ (S.bR (by first | omega | grind)) | exact x.ext.old _ (S.bX (by assumption) (by assumption) (by first | omega | grind)) | exact x.ext.old _ (S.bY (by assumption) (by assumption)) | (refine x.ext.old _ ?_; assumption) | exact absurd hw (by decide +kernel)))))); replace S := S.join0 x; clear x; refine KX_cons ?_; (first | (refine vl ?_ <;> refine KO_nil ⟨⟨by (first | exact True.intro | exact Or.inl rfl | exact Or.inr rfl | exact Or.inr (congrArg some (blkOf_elA _ _ _ _)) | exact ⟨Or.inl rfl, rfl⟩ | exact ⟨Or.inr rfl, rfl⟩), rfl⟩, ?_⟩)); refine KX_cons ?_; (first | (refine vl ?_ <;> refine KO_nil ⟨⟨by (first | exact True.intro | exact Or.inl rfl | exact Or.inr rfl | exact Or.inr (congrArg some (blkOf_elA _ _ _ _)) | exact ⟨Or.inl rfl, rfl⟩ | exact ⟨Or.inr rfl, rfl⟩), rfl⟩, ?_⟩)); refine KX_cons ?_; (first | (refine mv ?_ <;> refine KO_nil ⟨⟨by (first | exact True.intro | exact Or.inl rfl | exact Or.inr rfl | exact Or.inr (congrArg some (blkOf_elA _ _ _ _)) | exact ⟨Or.inl rfl, rfl⟩ | exact ⟨Or.inr rfl, rfl⟩), rfl⟩, ?_⟩)); refine KX_cons ?_; (first | (refine mv ?_ <;> refine KO_nil ⟨⟨by (first | exact True.intro | exact Or.inl rfl | exact Or.inr rfl | exact Or.inr (congrArg some (blkOf_elA _ _ _ _)) | exact ⟨Or.inl rfl, rfl⟩ | exact ⟨Or.inr rfl, rfl⟩), rfl⟩, ?_⟩)); refine KX_nil ?_)
  all_goals (repeat' (first | refine K_seq ?_ | refine k_cond rfl ?_ | refine K_skip ?_ | refine K_exit ?_ | refine k_block ?_ | refine K_scope ?_ | refine K_label ?_))
  refine K_ret ⟨_, rfl, ?_⟩
  exact ⟨⟨i, f, rfl, q1, q2⟩, S.drop⟩
end Go.Proofs.Xx

/-
  A pair is put into the list; Tie.
-/
namespace Go.Proofs.Xx
open Go Go.Proofs
set_option linter.unusedSimpArgs false
set_option linter.unusedVariables false
set_option maxRecDepth 100000
set_option linter.unusedSectionVars false

instance (x y : Ti) : Decidable (bef x y) := inferInstanceAs (Decidable (_ ∨ _))
/-- A tie of a pair. -/
def tiOf (a b : List UInt8) (k : Int) : Ti := ⟨sMin a b, sMax a b, k⟩
def tied (ts : List Ti) (a b : List UInt8) : Prop := ∃ t ∈ ts, t.a = sMin a b ∧ t.b = sMax a b
/-- One tie more, in order. -/
def putT : List Ti → Ti → List Ti
  | [], t => [t]
  | x :: r, t => if bef x t then x :: putT r t else t :: x :: r
open Classical in
noncomputable def tieF (r : Rl) (a b : List UInt8) (k : Int) : Rl × Int :=
  if (k ≠ 1 ∧ k ≠ 2) ∨ a = b then (r, 23) else if gat r.us a = none ∨ gat r.us b = none then (r, 6) else if tied r.ts a b then (r, 5) else if 256 ≤ r.ts.length then (r, 7) else (⟨r.us, putT r.ts (tiOf a b k)⟩, 0)
theorem putT_plc {t : Ti} : ∀ {l : List Ti} {i : Nat}, Plc l t i → putT l t = l.take i ++ t :: l.drop i
  | [], i, h => by simp [putT]
  | x :: r, 0, h => by
    have := h.2.2 0 (Nat.le_refl _) (by simp)
    show (if bef x t then _ else _) = _
    rw [if_neg (show ¬ bef x t from this)]; rfl
  | x :: r, i + 1, h => by
    have h0 := h.2.1 0 (Nat.succ_pos _)
    show (if bef x t then _ else _) = _
    rw [if_pos (show bef x t from h0), putT_plc (l := r) (i := i) ⟨by have := h.1; simp at this; omega, fun j hj => h.2.1 (j + 1) (by omega), fun j h1 h2 => h.2.2 (j + 1) (by omega) (by simp; omega)⟩]
    rfl
theorem Plc.tied {l : List Ti} {a b : List UInt8} {i : Nat} (hs : TS l) (h : Plc l ⟨sMin a b, sMax a b, 0⟩ i) : tied l a b ↔ i < l.length ∧ (l.getD i default).a = sMin a b ∧ (l.getD i default).b = sMax a b := by
  constructor
  · rintro ⟨t, ht, e1, e2⟩
    obtain ⟨j, hj, rfl⟩ := List.mem_iff_getElem.1 ht
    have eg : l.getD j default = l[j] := by rw [List.getD_eq_getElem?_getD, List.getElem?_eq_getElem hj]; rfl
    have hji : i ≤ j := by
      rcases Nat.lt_or_ge j i with q | q
      · have := h.2.1 j q
        rw [eg] at this
        rcases this with q | q
        · rw [e1] at q; exact absurd q (sLt_irr _)
        · rw [e2] at q; exact absurd q.2 (sLt_irr _)
      · exact q
    rcases Nat.lt_or_ge i j with q | q
    · have q1 := hs.lt q hj
      rw [eg] at q1
      refine absurd ?_ (h.2.2 i (Nat.le_refl _) (by omega))
      unfold bef at q1 ⊢
      rw [e1, e2] at q1
      exact q1
    · obtain rfl : i = j := by omega
      rw [eg]; exact ⟨hj, e1, e2⟩
  · rintro ⟨h1, h2, h3⟩
    refine ⟨_, List.getElem_mem h1, ?_⟩
    rw [show l[i] = l.getD i default by rw [List.getD_eq_getElem?_getD, List.getElem?_eq_getElem h1]; rfl]
    exact ⟨h2, h3⟩
theorem tieF_23 {r : Rl} {a b : List UInt8} {k : Int} (h : (k ≠ 1 ∧ k ≠ 2) ∨ a = b) : tieF r a b k = (r, 23) := by unfold tieF; rw [if_pos h]
theorem tieF_6 {r : Rl} {a b : List UInt8} {k : Int} (h : ¬ ((k ≠ 1 ∧ k ≠ 2) ∨ a = b)) (h2 : gat r.us a = none ∨ gat r.us b = none) : tieF r a b k = (r, 6) := by unfold tieF; rw [if_neg h, if_pos h2]
theorem tieF_5 {r : Rl} {a b : List UInt8} {k : Int} (h : ¬ ((k ≠ 1 ∧ k ≠ 2) ∨ a = b)) (h2 : ¬ (gat r.us a = none ∨ gat r.us b = none)) (h3 : tied r.ts a b) : tieF r a b k = (r, 5) := by unfold tieF; rw [if_neg h, if_neg h2, if_pos h3]
theorem tieF_7 {r : Rl} {a b : List UInt8} {k : Int} (h : ¬ ((k ≠ 1 ∧ k ≠ 2) ∨ a = b)) (h2 : ¬ (gat r.us a = none ∨ gat r.us b = none)) (h3 : ¬ tied r.ts a b) (h4 : 256 ≤ r.ts.length) : tieF r a b k = (r, 7) := by unfold tieF; rw [if_neg h, if_neg h2, if_neg h3, if_pos h4]
theorem tieF_0 {r : Rl} {a b : List UInt8} {k : Int} (h : ¬ ((k ≠ 1 ∧ k ≠ 2) ∨ a = b)) (h2 : ¬ (gat r.us a = none ∨ gat r.us b = none)) (h3 : ¬ tied r.ts a b) (h4 : ¬ 256 ≤ r.ts.length) : tieF r a b k = (⟨r.us, putT r.ts (tiOf a b k)⟩, 0) := by unfold tieF; rw [if_neg h, if_neg h2, if_neg h3, if_neg h4]
variable [Flag]
theorem insT_ok {h0 h : AH} {rs : List Rs} {vt : SlV} {v1 : Value} {l : List Ti} {t : Ti} (i : Nat) (hi : i ≤ l.length) (hl : l.length ≤ 1000000) (S : Hs h0 h (.sl v1 111 3 eRaw [eTi t] :: .sl vt.val 111 3 eTi l :: rs)) :
    Fn Tryz.prog Xh 88 [vt.val, .int .i64 i, v1] h (fun u h' => Hs h0 h' (.sl u 111 3 eTi (l.take i ++ t :: l.drop i) :: rs)) := by
  have hfl := flatMap_length (enc := eTi) (z := 3) (by intro _; rfl) l
  obtain ⟨f1, k1, k2, f2, k3, k4, k5⟩ := S.sep
  rcases k1 with ⟨-, k⟩ | ⟨vb, vo, vcc, vslk, vcap, rfl, g1, fv, t1, c1, s1⟩
  · cases k
  replace S : Hs h0 h (.sl (.slice (some ⟨vb, vo, none⟩) 1 vcap) 111 3 eRaw [eTi t] :: .sl vt.val 111 3 eTi l :: rs) := S
  show Fn Tryz.prog Xh 88 [vt.val, .int .i64 i, .slice (some ⟨vb, vo, none⟩) 1 vcap] h _
  by_cases hlt : i < l.length
  · rcases k3 with ⟨-, rfl⟩ | ⟨b, o, cc, slk, cap, e2, g2, fb, t2, c2, s2⟩
    · exact absurd hlt (by simp)
    rw [e2]
    have hne : (!Nat.beq b vb) = true := by
      cases hq : Nat.beq b vb with
      | false => rfl
      | true => have := Nat.eq_of_beq_eq_true hq; subst this; exact absurd fv (k4 b fb).2.2.2
    have hone : ((l.flatMap eTi).all one?) = true := by
      rw [List.all_eq_true]
      intro x hx
      obtain ⟨y, -, hy⟩ := List.mem_flatMap.1 hx
      simp [eTi] at hy
      rcases hy with rfl | rfl | rfl <;> rfl
    refine Fn_known (v := .slice (some ⟨h.next, 0, none⟩) (l.length + 1) (l.length + 1)) (h' := (h.put b .dead).add (.cells ((l.flatMap eTi).take (i * 3) ++ (eTi t ++ (l.flatMap eTi).drop (i * 3))) 111 (some 3) false)) ?_ ?_
    · show withIns X0 88 88 [.slice (some ⟨b, o, none⟩) l.length cap, .int .i64 (.ofNat i), .slice (some ⟨vb, vo, none⟩) 1 vcap] h = _
      unfold withIns
      have hb1 : Nat.blt i l.length = true := by rw [Nat.blt_eq]; exact hlt
      have t1' : takeAt vcc vo 3 = some (eTi t) := by simpa [eRaw] using t1
      have hc2 : Nat.ble (o + cap * 3) cc.length = true := Nat.ble_eq_true_of_le c2.2
      have hsz : Nat.ble ((l.length + 1) * 40) 1099511627776 = true := Nat.ble_eq_true_of_le (by omega)
      have hot : ((eTi t).all one?) = true := rfl
      simp only [show Nat.beq 88 88 = true from rfl, hb1, g2, g1, t2, t1', hc2, hsz, hone, hot, hne, Bool.and_true, show Nat.beq 111 111 = true from rfl]
      rcases s2 with rfl | rfl <;> rfl
    · have W := (S.wf.put (k4 b fb).2.1 .dead)
      have S2 : Hs h0 ((h.put b .dead).add (.cells ((l.flatMap eTi).take (i * 3) ++ (eTi t ++ (l.flatMap eTi).drop (i * 3))) 111 (some 3) false)) (.sl (.slice (some ⟨vb, vo, none⟩) 1 vcap) 111 3 eRaw [eTi t] :: .sl (.slice (some ⟨h.next, 0, none⟩) (l.length + 1) (l.length + 1)) 111 3 eTi (l.take i ++ t :: l.drop i) :: rs) := by
        refine S.turn (.there .here) (Nat.le_succ _) (W.add _) fun fp q1 q2 => ?_
        rcases q1 with ⟨q1, -⟩ | ⟨b2, o2, cc2, sl2, cap2, q1, -, q3, -⟩
        · rw [q1] at e2; cases e2
        obtain rfl : b2 = b := by rw [q1] at e2; cases e2; rfl
        refine ⟨fun j hj hf => ?_, fun j => j = h.next, .inr ⟨h.next, 0, (l.flatMap eTi).take (i * 3) ++ (eTi t ++ (l.flatMap eTi).drop (i * 3)), some 3, l.length + 1, ?_, ?_, rfl, ?_, ⟨?_, ?_⟩, .inr rfl⟩, fun j hj => ?_⟩
        · rw [AH.get_add, if_neg (by show j ≠ h.next; omega), AH.get_put, if_neg]
          intro q; subst q; exact hf q3
        · simp; omega
        · rw [AH.get_add]; exact if_pos rfl
        · have e : ((l.flatMap eTi).take (i * 3) ++ (eTi t ++ (l.flatMap eTi).drop (i * 3))) = (l.take i ++ t :: l.drop i).flatMap eTi := by
            rw [List.flatMap_append, List.flatMap_cons, flatMap_take (z := 3) (by intro _; rfl), flatMap_drop (z := 3) (by intro _; rfl)]
          rw [e]
          rw [← flatMap_length (enc := eTi) (z := 3) (by intro _; rfl)]
          exact takeAt_all _
        · simp; omega
        · simp [hfl, eTi]; omega
        · subst hj; exact ⟨Nat.lt_succ_self _, .inr (Nat.le_refl _)⟩
      exact S2.tail
  · obtain rfl : i = l.length := by omega
    have hX : Xh 88 [vt.val, .int .i64 l.length, .slice (some ⟨vb, vo, none⟩) 1 vcap] h = none := by
      rcases k3 with ⟨e2, rfl⟩ | ⟨b, o, cc, slk, cap, e2, -⟩
      · rw [e2]; rfl
      · rw [e2]
        show withIns X0 88 88 [.slice (some ⟨b, o, none⟩) l.length cap, .int .i64 (.ofNat l.length), .slice (some ⟨vb, vo, none⟩) 1 vcap] h = _
        unfold withIns
        have hb1 : Nat.blt l.length l.length = false := by rw [← Bool.not_eq_true, Nat.blt_eq]; omega
        simp only [show Nat.beq 88 88 = true from rfl, hb1]
        rfl
    have hr := Rd.of_sl S (.there .here)
    have hcap := S.capS (.there .here)
    refine Fn_K (hX) Tryz.func88 rfl rfl ?_
    all_goals (repeat' (first | refine K_seq ?_ | (refine K_region (id := 0) ?_; refine mv ?_; refine KO_nil ?_)))
    (repeat (refine K_seq ?_)); refine K_region (id := 1) ?_; refine mv ?_; refine mv ?_
    refine su l.length l.length hr hcap (fun v' _ _ => ?_)
    (refine KO_nil ?_)
    all_goals (repeat' (first | refine K_seq ?_ | refine k_cond rfl ?_ | refine K_skip ?_ | (refine K_region (id := 2) ?_; refine mv ?_; refine lnS S rfl rfl ?_; refine mv ?_; refine KO_nil ?_) | (refine K_region (id := 3) ?_; refine mv ?_; (first | (refine cS ?_ ?_ <;> intro hc)) <;> (refine KO_nil ?_)) | (refine K_region (id := 4) ?_; refine mv ?_; refine mv ?_; refine KO_nil ?_) | (refine K_region (id := 5) ?_; refine mv ?_; refine lnS S rfl rfl ?_; refine mv ?_; refine KO_nil ?_) | (refine K_region (id := 6) ?_; refine mv ?_; refine mv ?_; (refine cT ?_) <;> (refine KO_nil ?_)) | (refine K_region (id := 7) ?_; refine mv ?_; refine mv ?_)))
    · simp at hc
    · refine app (y0 := t) S rfl rfl ?_; clear S; intro v h S; (refine mv ?_; refine KO_nil ?_)
      all_goals (repeat' (fail))
      refine K_ret ⟨_, rfl, ?_⟩
      simp only [List.take_length, List.drop_length]
      exact S
    all_goals exact absurd rfl (by assumption)
theorem tie_ok {h0 h : AH} {rs : List Rs} {p : Nat} {r : Rl} (S : Hs h0 h (bookR p r :: rs)) (a b : List UInt8) (k : Int) (hl : r.ts.length ≤ 256) (hs : TS r.ts) :
    Fn Tryz.prog Xh 37 [.pointer (some ⟨p, 0, none⟩), str a, str b, .int .u8 k] h (fun v h' => v = .int .i64 (tieF r a b k).2 ∧ Hs h0 h' (bookR p (tieF r a b k).1 :: rs)) := by
  obtain ⟨⟨vg, vt, m, mp, gs⟩, ⟨q1, q2⟩, S⟩ := S.unpack
  have e1 : gs.length = r.us.length := by rw [← q1]; simp
  dsimp only [bkL, List.cons_append, List.nil_append] at q1 q2 S
  refine Fn_K rfl Tryz.func37 rfl rfl ?_
  all_goals (repeat' (first | refine K_seq ?_ | (refine K_region (id := 0) ?_; refine mv ?_; refine KO_nil ?_) | (refine K_region (id := 1) ?_; refine mv ?_)))
  (refine KO_fn rfl rfl rfl rfl rfl ((bnone_ok S.wf (blk_get S .here)).mono ?_); rintro _ h ⟨rfl, x⟩) <;> (replace S := S.join0 x; clear x; refine KO_nil ?_)
  all_goals (repeat' (first | refine K_seq ?_ | refine k_cond rfl ?_ | refine K_skip ?_))
  (repeat (refine K_seq ?_)); first | refine K_join (σ := Unit) (fun _ h' => ¬ ((k ≠ 1 ∧ k ≠ 2) ∨ a = b) ∧ Hs h0 h' (.blk p [vg.val, vt.val, .map (some m)] 86 :: .sl vg.val 24 9 eG gs :: .sl vt.val 111 3 eTi r.ts :: .mp m (.int .i64) mp :: tgR gs :: rs)) (fun _ => [(0, .pointer (some ⟨p, 0, none⟩)), (1, str a), (2, str b), (3, .int .u8 k)]) ?_ ?_
  · all_goals (repeat' (first | refine K_seq ?_ | refine k_cond rfl ?_ | refine K_skip ?_ | (refine K_region (id := 3) ?_; refine mv ?_; (first | (refine cS ?_ ?_ <;> intro hc)) <;> (refine mv ?_; (first | refine off ?_ | refine mv ?_); (first | refine off ?_ | (first | (refine cS ?_ ?_ <;> intro hc))) <;> (refine vl ?_; refine mv ?_; (first | refine off ?_ | refine mv ?_); (first | refine off ?_ | refine mv ?_); (first | refine off ?_ | (refine tS ?_ ?_ <;> intro hc)) <;> (refine vl ?_; refine KO_nil ?_)))) | (refine K_region (id := 4) ?_; refine mv ?_; refine KO_nil ?_)))
    all_goals first
      | exact ⟨(), ⟨by omega, S⟩, ((by repeat (fail)))⟩
      | exact ⟨(), ⟨by grind, S⟩, ((by repeat (first | exact Ks.le_nil _ | refine Ks.le_cons rfl ?_)))⟩
      | ((refine K_ret ⟨_, rfl, ?_⟩); rw [tieF_23 (by first | omega | grind)]; exact ⟨rfl, S.bk vg vt m mp gs q1 q2⟩)
  clear S
  rintro - h ⟨hk, S⟩
  all_goals (repeat' (first | refine K_seq ?_ | (refine K_region (id := 5) ?_; refine mv ?_; refine mv ?_)))
  refine bsn (α := List UInt8) (z := 1) eS [a, b] S ?_; clear S; intro u h S; ((refine lnS S rfl rfl ?_); refine mv ?_; refine KO_nil ?_)
  all_goals (repeat' (refine k_block ?_))
  refine k_loop (σ := Nat) (fun i h' => Hs h0 h' (.sl u 9 1 eS [a, b] :: .blk p [vg.val, vt.val, .map (some m)] 86 :: .sl vg.val 24 9 eG gs :: .sl vt.val 111 3 eTi r.ts :: .mp m (.int .i64) mp :: tgR gs :: rs) ∧ i ≤ 2 ∧ ∀ j, j < i → gat r.us ([a, b].getD j default) ≠ none) (fun i => 2 - i) (fun i => [(0, .pointer (some ⟨p, 0, none⟩)), (1, str a), (2, str b), (3, .int .u8 k), (30, u), (31, .int .i64 ([a, b].length : Nat)), (32, .int .i64 i)]) 0 (by repeat (first | exact Ks.le_nil _ | refine Ks.le_cons rfl ?_)) ?_ ?_
  · exact ⟨S, Nat.zero_le _, fun j hj => absurd hj (Nat.not_lt_zero _)⟩
  clear S
  rintro i h ⟨S, g1, g2⟩
  all_goals (repeat' (first | refine K_seq ?_ | refine k_cond rfl ?_ | refine K_skip ?_ | refine K_exit ?_ | refine k_block ?_ | (refine K_region (id := 6) ?_; (first | (refine cS ?_ ?_ <;> intro hc)) <;> (refine KO_nil ?_)) | (refine K_region (id := 7) ?_; refine ixS2 S rfl rfl ?_; refine lES2 S rfl rfl ?_; refine mv ?_; refine KO_nil ?_) | (refine K_region (id := 8) ?_; refine mv ?_; refine vl ?_; refine vl ?_; refine lB S rfl rfl ?_; refine mv ?_) | (refine K_region (id := 12) ?_; refine mv ?_; refine mv ?_; refine mv ?_; skip)))
  · have hi2 : i < 2 := by simp at hc; omega
    simp only [Int.toNat_natCast]
    refine lk S (.there (.there (.there (.there .here)))) (fun y hy => ?_) (fun hy => ?_)
    · simp only [okV]
      (refine mv ?_; refine vl ?_; refine vl ?_; refine mv ?_; refine mv ?_; refine KO_nil ?_)
      all_goals (repeat' (first | refine K_seq ?_ | refine k_cond rfl ?_ | refine K_skip ?_ | (refine K_region (id := 9) ?_; refine mv ?_; refine vl ?_; refine KO_nil ?_) | (refine K_region (id := 11) ?_; refine ad ?_; refine mv ?_; refine KO_nil ?_)))
      refine ⟨i + 1, ?_, ?_, (by repeat (first | exact Ks.le_nil _ | refine Ks.le_cons rfl ?_))⟩
      · show 2 - (i + 1) < 2 - i; omega
      · refine ⟨S, by omega, nxtD g2 fun q => ?_⟩
        rw [q2, q] at hy; cases hy
    · simp only [okV]
      (refine mv ?_; refine vl ?_; refine vl ?_; refine mv ?_; refine mv ?_; refine KO_nil ?_)
      all_goals (repeat' (first | refine K_seq ?_ | refine k_cond rfl ?_ | (refine K_region (id := 9) ?_; refine mv ?_; refine vl ?_; refine KO_nil ?_) | (refine K_region (id := 10) ?_; refine mv ?_; refine KO_nil ?_)))
      refine K_ret ⟨_, rfl, ?_⟩
      rw [q2] at hy
      have hn : gat r.us ([a, b].getD i default) = none := by
        cases hq : gat r.us ([a, b].getD i default) with
        | none => rfl
        | some z => rw [hq] at hy; cases hy
      rw [tieF_6 hk (by
        rcases (show i = 0 ∨ i = 1 by omega) with rfl | rfl
        · exact .inl hn
        · exact .inr hn)]
      exact ⟨rfl, S.bk vg vt m mp gs q1 q2⟩
  · have hi2 : i = 2 := by simp at hc; omega
    have hk2 : ¬ (gat r.us a = none ∨ gat r.us b = none) := fun q => by
      rcases q with q | q
      · exact g2 0 (by omega) q
      · exact g2 1 (by omega) q
    (refine KO_fn rfl rfl rfl rfl rfl ((place_ok S.wf (blk_get S (.there .here)) (Rd.of_sl S (.there (.there (.there .here)))) (by omega) hs a b).mono ?_); rintro _ h ⟨⟨j, _ | _, rfl, p1, p2⟩, x⟩) <;> (replace S := S.join0 x; clear x; refine mv ?_; refine vl ?_; refine vl ?_; refine mv ?_; refine mv ?_; refine KO_nil ?_)
    · have hk3 : ¬ tied r.ts a b := fun q => by have := p2.2 ((p1.tied hs).1 q); cases this
      all_goals (repeat' (first | refine K_seq ?_ | refine k_cond rfl ?_ | refine K_skip ?_ | (refine K_region (id := 13) ?_; refine mv ?_; refine KO_nil ?_) | (refine K_region (id := 15) ?_; refine mv ?_; refine vl ?_; refine vl ?_; refine vl ?_; refine lB S rfl rfl ?_; refine lnS S rfl rfl ?_; (first | (refine cS ?_ ?_ <;> intro hc)) <;> (refine KO_nil ?_)) | (refine K_region (id := 16) ?_; refine mv ?_; refine KO_nil ?_)))
      · refine K_ret ⟨_, rfl, ?_⟩
        rw [tieF_7 hk hk2 hk3 (by omega)]
        exact ⟨rfl, S.bk vg vt m mp gs q1 q2⟩
      · have hk4 : ¬ 256 ≤ r.ts.length := by omega
        (repeat (refine K_seq ?_)); refine K_drawX (id := 17) [(5, (0, 2))] [some (p)] ?_; refine KX_cons ?_; (first | (refine mv ?_ <;> refine KO_nil ⟨⟨by (first | exact True.intro), rfl⟩, ?_⟩)); refine KX_cons ?_; (first | (refine mv ?_ <;> refine KO_nil ⟨⟨by (first | exact True.intro), rfl⟩, ?_⟩)); refine KX_cons ?_; (first | (refine vl ?_ <;> refine KO_nil ⟨⟨by (first | exact True.intro), rfl⟩, ?_⟩)); refine KX_cons ?_; (first | (refine vl ?_ <;> refine KO_nil ⟨⟨by (first | exact True.intro), rfl⟩, ?_⟩)); refine KX_cons ?_; (first | (refine vl ?_ <;> refine KO_nil ⟨⟨by (first | exact True.intro), rfl⟩, ?_⟩)); refine KX_cons ?_; (first | (refine lB S rfl rfl ?_ <;> refine KO_nil ⟨⟨by (first | exact Or.inr rfl), rfl⟩, ?_⟩)); refine KX_cons ?_; (first | (refine mv ?_ <;> refine KO_nil ⟨⟨by (first | exact True.intro), rfl⟩, ?_⟩)); refine KX_cons ?_; (first | (refine mv ?_ <;> refine KO_nil ⟨⟨by (first | exact True.intro), rfl⟩, ?_⟩)); refine KX_cons ?_; (first | (refine mv ?_ <;> refine KO_nil ⟨⟨by (first | exact True.intro), rfl⟩, ?_⟩)); refine KX_cons ?_; (first | (refine mv ?_ <;> refine KO_nil ⟨⟨by (first | exact True.intro), rfl⟩, ?_⟩))
        ((refine KX_cons ?_; first | refine KO_fn rfl rfl rfl rfl rfl ((pair_ok S.wf a b k).mono ?_)); rintro _ h ⟨rfl, x⟩) <;> ((refine KO_nil ⟨⟨True.intro, ?_⟩, ?_⟩; (focus ((show keepsX _ _ _ _ _; simp only [keepsX]; (repeat' (first | exact True.intro | refine And.intro ?_ ?_)); all_goals (intro hw; first | exact x.ext.old _ S.bB))))); replace S := S.join0 x; clear x; refine KX_cons ?_; (first | ((refine one 3 S ?_; have S0 := S; clear S; intro u h S); refine KO_nil ⟨⟨True.intro, ?_⟩, ?_⟩; (focus ((show keepsX _ _ _ _ _; simp only [keepsX]; (repeat' (first | exact True.intro | refine And.intro ?_ ?_)); all_goals (intro hw; first | exact (S.gB).trans (S0.gB).symm)))); clear S0)))
        replace S : Hs h0 _ (.sl u 111 3 eRaw [eTi (tiOf a b k)] :: _) := S
        have S := (show Hs h0 _ (.sl u 111 3 eRaw [eTi (tiOf a b k)] :: .sl vt.val 111 3 eTi r.ts :: .blk p [vg.val, vt.val, .map (some m)] 86 :: .sl vg.val 24 9 eG gs :: .mp m (.int .i64) mp :: tgR gs :: rs) from S.pick)
        refine KX_cons ?_; refine KO_fn rfl rfl rfl rfl rfl ((insT_ok j p1.1 (by omega) S).mono ?_); have S0 := S; clear S; rintro v h S; obtain ⟨vt', rfl⟩ := S.sV v; refine KO_nil ⟨⟨True.intro, ?_⟩, ?_⟩; (focus ((show keepsX _ _ _ _ _; simp only [keepsX]; (repeat' (first | exact True.intro | refine And.intro ?_ ?_)); all_goals (intro hw; first | exact (S.gB).trans (S0.gB).symm)))); clear S0; (refine KX_cons ?_; (first | (refine vl ?_ <;> refine KO_nil ⟨⟨by (first | exact True.intro), rfl⟩, ?_⟩)); refine KX_cons ?_; (first | (refine vl ?_ <;> refine KO_nil ⟨⟨by (first | exact True.intro), rfl⟩, ?_⟩)); refine KX_cons ?_; (first | (refine vl ?_ <;> refine KO_nil ⟨⟨by (first | exact True.intro), rfl⟩, ?_⟩)); refine KX_cons ?_; (first | ((refine sB S rfl rfl ?_; have S0 := S; clear S; intro h S); refine KO_nil ⟨⟨True.intro, ?_⟩, ?_⟩; (focus ((show keepsX _ _ _ _ _; simp only [keepsX]; (repeat' (first | exact True.intro | refine And.intro ?_ ?_)); all_goals (intro hw; first | exact absurd hw (by decide +kernel))))); clear S0)); refine KX_nil ?_)
        all_goals (repeat' (first | refine K_seq ?_ | (refine K_region (id := 18) ?_; refine mv ?_; refine KO_nil ?_)))
        refine K_ret ⟨_, rfl, ?_⟩
        rw [tieF_0 hk hk2 hk3 hk4, putT_plc (t := tiOf a b k) p1]
        replace S : Hs h0 h (.sl vt'.val 111 3 eTi (r.ts.take j ++ tiOf a b k :: r.ts.drop j) :: .blk p [vg.val, vt'.val, .map (some m)] 86 :: _) := S
        exact ⟨rfl, S.bk vg vt' m mp gs q1 q2⟩
    · have hk3 : tied r.ts a b := (p1.tied hs).2 (p2.1 rfl)
      skip
      all_goals (repeat' (first | refine K_seq ?_ | refine k_cond rfl ?_ | (refine K_region (id := 13) ?_; refine mv ?_; refine KO_nil ?_) | (refine K_region (id := 14) ?_; refine mv ?_; refine KO_nil ?_)))
      refine K_ret ⟨_, rfl, ?_⟩
      rw [tieF_5 hk hk2 hk3]
      exact ⟨rfl, S.bk vg vt m mp gs q1 q2⟩
end Go.Proofs.Xx

/-
  Rolls that are right; Load.
-/
namespace Go.Proofs.Xx
open Go Go.Proofs
set_option linter.unusedSimpArgs false
set_option linter.unusedVariables false
set_option linter.unusedSectionVars false
set_option maxRecDepth 100000

/-- v is a roll that reads as r. -/
structure RlV where
  vg : SlV
  vt : SlV
  gs : List Gst
def RlV.val (v : RlV) : Value := .agg #[v.vg.val, v.vt.val]
structure RlOk (h : AH) (v : RlV) (r : Rl) : Prop where
  rg : RdL h v.vg.val 9 eG v.gs
  rt : RdL h v.vt.val 3 eTi r.ts
  tg : ∀ i, i < v.gs.length → RdL h (v.gs.getD i default).tv.val 1 eS (v.gs.getD i default).tg ∧ (v.gs.getD i default).tg.length ≤ 9223372036854775807
  us : v.gs.map (·.toGu) = r.us
  lg : r.us.length ≤ 9223372036854775807
  lt : r.ts.length ≤ 9223372036854775807
theorem RlOk.ext {h h' : AH} {v : RlV} {r : Rl} (a : RlOk h v r) (w : WfH h) (x : Ext h h') : RlOk h' v r := ⟨a.rg.ext w x, a.rt.ext w x, fun i hi => ⟨(a.tg i hi).1.ext w x, (a.tg i hi).2⟩, a.us, a.lg, a.lt⟩
theorem RlOk.len {h : AH} {v : RlV} {r : Rl} (a : RlOk h v r) : v.gs.length = r.us.length := by rw [← a.us]; simp
theorem map_getD {α β : Type} [Inhabited α] [Inhabited β] {f : α → β} {l : List α} {i : Nat} (hi : i < l.length) : (l.map f).getD i default = f (l.getD i default) := by
  rw [List.getD_eq_getElem?_getD, List.getD_eq_getElem?_getD, List.getElem?_map, List.getElem?_eq_getElem hi]; rfl
theorem RlOk.at_ {h : AH} {v : RlV} {r : Rl} (a : RlOk h v r) {i : Nat} (hi : i < v.gs.length) : (v.gs.getD i default).toGu = r.us.getD i default := by rw [← a.us, map_getD hi]
/-- What is wrong with the i-th guest, behind those ahead of it. -/
noncomputable def gE0 (us : List Gu) (i : Nat) : Int := (addF ⟨us.take i, []⟩ (us.getD i default)).2
open Classical in
/-- What is wrong with the i-th tie. -/
noncomputable def tE0 (r : Rl) (i : Nat) : Int :=
  if sLt (r.ts.getD i default).a (r.ts.getD i default).b ∧ (i = 0 ∨ ¬ bef (r.ts.getD i default) (r.ts.getD (i - 1) default)) then (tieF ⟨r.us, r.ts.take i⟩ (r.ts.getD i default).a (r.ts.getD i default).b (r.ts.getD i default).k).2 else 23
/-- A right roll. -/
def VRl (r : Rl) : Prop := (∀ i, i < r.us.length → gE0 r.us i = 0) ∧ ∀ i, i < r.ts.length → tE0 r i = 0
/-- The first thing that is wrong in a roll. -/
def Bad (r : Rl) (i e : Int) : Prop := e ≠ 0 ∧ ((∃ j : Nat, j < r.us.length ∧ (∀ k, k < j → gE0 r.us k = 0) ∧ gE0 r.us j = e ∧ i = j) ∨ ((∀ k, k < r.us.length → gE0 r.us k = 0) ∧ ∃ j : Nat, j < r.ts.length ∧ (∀ k, k < j → tE0 r k = 0) ∧ tE0 r j = e ∧ i = r.us.length + j))
theorem first_uniq {p : Nat → Int} {j k : Nat} (h1 : ∀ i, i < j → p i = 0) (h2 : p j ≠ 0) (h3 : ∀ i, i < k → p i = 0) (h4 : p k ≠ 0) : j = k := by
  rcases Nat.lt_trichotomy j k with q | q | q
  · exact absurd (h3 j q) h2
  · exact q
  · exact absurd (h1 k q) h4
theorem Bad.uniq {r : Rl} {i e i' e' : Int} (a : Bad r i e) (b : Bad r i' e') : i = i' ∧ e = e' := by
  obtain ⟨h1, a⟩ := a
  obtain ⟨h2, b⟩ := b
  rcases a with ⟨j, a1, a2, a3, a4⟩ | ⟨a0, j, a1, a2, a3, a4⟩ <;> rcases b with ⟨k, b1, b2, b3, b4⟩ | ⟨b0, k, b1, b2, b3, b4⟩
  · obtain rfl := first_uniq a2 (a3 ▸ h1) b2 (b3 ▸ h2)
    exact ⟨a4.trans b4.symm, a3.symm.trans b3⟩
  · exact absurd (b0 j a1) (a3 ▸ h1)
  · exact absurd (a0 k b1) (b3 ▸ h2)
  · obtain rfl := first_uniq a2 (a3 ▸ h1) b2 (b3 ▸ h2)
    exact ⟨a4.trans b4.symm, a3.symm.trans b3⟩
theorem Bad.not {r : Rl} {i e : Int} (a : Bad r i e) : ¬ VRl r := fun v => by
  obtain ⟨h1, ⟨j, a1, a2, a3, a4⟩ | ⟨a0, j, a1, a2, a3, a4⟩⟩ := a
  · exact h1 (a3 ▸ v.1 j a1)
  · exact h1 (a3 ▸ v.2 j a1)
theorem addF_zero {r : Rl} {g : Gu} (h : (addF r g).2 = 0) : chkG g = 0 ∧ gat r.us g.name = none ∧ r.us.length < 64 ∧ (addF r g).1 = ⟨r.us ++ [g], r.ts⟩ := by
  by_cases h1 : chkG g = 0
  · by_cases h2 : gat r.us g.name = none
    · by_cases h3 : 64 ≤ r.us.length
      · rw [addF_7 h1 h2 h3] at h; cases h
      · rw [addF_0 h1 h2 h3]; exact ⟨h1, h2, by omega, rfl⟩
    · rw [addF_5 h1 h2] at h; cases h
  · rw [addF_e h1] at h; exact absurd h h1
theorem tieF_zero {r : Rl} {a b : List UInt8} {k : Int} (h : (tieF r a b k).2 = 0) : (k = 1 ∨ k = 2) ∧ a ≠ b ∧ gat r.us a ≠ none ∧ gat r.us b ≠ none ∧ ¬ tied r.ts a b ∧ r.ts.length < 256 ∧ (tieF r a b k).1 = ⟨r.us, putT r.ts (tiOf a b k)⟩ := by
  by_cases h1 : (k ≠ 1 ∧ k ≠ 2) ∨ a = b
  · rw [tieF_23 h1] at h; cases h
  · by_cases h2 : gat r.us a = none ∨ gat r.us b = none
    · rw [tieF_6 h1 h2] at h; cases h
    · by_cases h3 : tied r.ts a b
      · rw [tieF_5 h1 h2 h3] at h; cases h
      · by_cases h4 : 256 ≤ r.ts.length
        · rw [tieF_7 h1 h2 h3 h4] at h; cases h
        · rw [tieF_0 h1 h2 h3 h4]
          exact ⟨by omega, fun q => h1 (.inr q), fun q => h2 (.inl q), fun q => h2 (.inr q), h3, by omega, rfl⟩
theorem take_succ_getD {α : Type} [Inhabited α] {l : List α} {i : Nat} (hi : i < l.length) : l.take (i + 1) = l.take i ++ [l.getD i default] := by
  rw [List.take_add_one, List.getD_eq_getElem?_getD, List.getElem?_eq_getElem hi]; rfl
theorem gE0_len {us : List Gu} {i : Nat} (hi : i ≤ us.length) (h : ∀ k, k < i → gE0 us k = 0) : i ≤ 64 := by
  cases i with
  | zero => omega
  | succ i =>
    have := (addF_zero (h i (Nat.lt_succ_self i))).2.2.1
    simp at this; omega
theorem getD_take {α : Type} [Inhabited α] {l : List α} {i j : Nat} (h : j < i) : (l.take i).getD j default = l.getD j default := by
  rw [List.getD_eq_getElem?_getD, List.getD_eq_getElem?_getD, List.getElem?_take, if_pos h]
theorem TS.mk_ {ts : List Ti} (h : ∀ i j, i < j → j < ts.length → bef (ts.getD i default) (ts.getD j default)) : TS ts := by
  rw [TS, List.pairwise_iff_getElem]
  intro i j hi hj hij
  have := h i j hij hj
  rw [List.getD_eq_getElem?_getD, List.getD_eq_getElem?_getD, List.getElem?_eq_getElem hj, List.getElem?_eq_getElem hi] at this
  exact this
theorem TS.app {ts : List Ti} {t : Ti} (h : TS ts) (h2 : ∀ j, j < ts.length → bef (ts.getD j default) t) : TS (ts ++ [t]) := TS.mk_ fun i j hij hj => by
  simp at hj
  rw [gA1 (show i < ts.length by omega)]
  rcases Nat.lt_or_ge j ts.length with q | q
  · rw [gA1 q]; exact h.lt hij q
  · obtain rfl : j = ts.length := by omega
    rw [gA2 (Nat.le_refl _), Nat.sub_self]; exact h2 i (by omega)
theorem tE0_zero {r : Rl} {i : Nat} (h : tE0 r i = 0) : sLt (r.ts.getD i default).a (r.ts.getD i default).b ∧ (i = 0 ∨ ¬ bef (r.ts.getD i default) (r.ts.getD (i - 1) default)) ∧ (tieF ⟨r.us, r.ts.take i⟩ (r.ts.getD i default).a (r.ts.getD i default).b (r.ts.getD i default).k).2 = 0 := by
  unfold tE0 at h
  split at h
  · rename_i q; exact ⟨q.1, q.2, h⟩
  · cases h
theorem sMin_lt {a b : List UInt8} (h : sLt a b) : sMin a b = a := by unfold sMin; rw [if_neg (sLt_asymm h)]
theorem sMax_lt {a b : List UInt8} (h : sLt a b) : sMax a b = b := by unfold sMax; rw [if_pos h]
theorem tE0_ts {r : Rl} : ∀ {i : Nat}, i ≤ r.ts.length → (∀ k, k < i → tE0 r k = 0) → TS (r.ts.take i) ∧ (i < r.ts.length → tE0 r i = 0 → ∀ j, j < i → bef (r.ts.getD j default) (r.ts.getD i default))
  | i, hi, h => by
    have key : ∀ i, i ≤ r.ts.length → (∀ k, k < i → tE0 r k = 0) → TS (r.ts.take i) → i < r.ts.length → tE0 r i = 0 → ∀ j, j < i → bef (r.ts.getD j default) (r.ts.getD i default) := by
      intro i hi h hs hl h0 j hj
      obtain ⟨z1, z2, z3⟩ := tE0_zero h0
      have z4 := (tieF_zero z3).2.2.2.2.1
      have hp : bef (r.ts.getD (i - 1) default) (r.ts.getD i default) := by
        rcases bef_tri (r.ts.getD (i - 1) default) (r.ts.getD i default) with q | ⟨e1, e2⟩ | q
        · exact q
        · refine absurd ⟨r.ts.getD (i - 1) default, ?_, ?_⟩ z4
          · rw [← getD_take (show i - 1 < i by omega)]
            have hl2 : i - 1 < (r.ts.take i).length := by simp; omega
            rw [List.getD_eq_getElem?_getD, List.getElem?_eq_getElem hl2]
            exact List.getElem_mem hl2
          · rw [sMin_lt z1, sMax_lt z1]; exact ⟨e1, e2⟩
        · rcases z2 with z2 | z2
          · omega
          · exact absurd q z2
      rcases Nat.lt_or_ge j (i - 1) with q | q
      · have hl2 : i - 1 < (r.ts.take i).length := by simp; omega
        have := hs.lt q hl2
        rw [getD_take (by omega), getD_take (by omega)] at this
        exact bef_trans this hp
      · obtain rfl : j = i - 1 := by omega
        exact hp
    have all : ∀ i, i ≤ r.ts.length → (∀ k, k < i → tE0 r k = 0) → TS (r.ts.take i) := by
      intro i
      induction i with
      | zero => intro _ _; simp [TS]
      | succ i ih =>
        intro hi h
        have hs := ih (by omega) fun k hk => h k (by omega)
        rw [take_succ_getD (by omega)]
        refine hs.app fun j hj => ?_
        simp at hj
        rw [getD_take (by omega)]
        exact key i (by omega) (fun k hk => h k (by omega)) hs (by omega) (h i (by omega)) j (by omega)
    exact ⟨all i hi h, key i hi h (all i hi h)⟩
theorem tE0_len {r : Rl} {i : Nat} (hi : i ≤ r.ts.length) (h : ∀ k, k < i → tE0 r k = 0) : i ≤ 256 := by
  cases i with
  | zero => omega
  | succ i =>
    have := (tieF_zero (tE0_zero (h i (Nat.lt_succ_self i))).2.2).2.2.2.2.2.1
    simp at this; omega
theorem tE0_put {r : Rl} {i : Nat} (hi : i < r.ts.length) (h : ∀ k, k < i → tE0 r k = 0) (h0 : tE0 r i = 0) : (tieF ⟨r.us, r.ts.take i⟩ (r.ts.getD i default).a (r.ts.getD i default).b (r.ts.getD i default).k).1 = ⟨r.us, r.ts.take (i + 1)⟩ := by
  obtain ⟨z1, z2, z3⟩ := tE0_zero h0
  rw [(tieF_zero z3).2.2.2.2.2.2]
  have e : tiOf (r.ts.getD i default).a (r.ts.getD i default).b (r.ts.getD i default).k = r.ts.getD i default := by unfold tiOf; rw [sMin_lt z1, sMax_lt z1]
  have hl : (r.ts.take i).length = i := by simp; omega
  show (⟨r.us, putT (r.ts.take i) _⟩ : Rl) = _
  rw [e, putT_plc (i := i) ⟨by omega, fun j hj => by rw [getD_take hj]; exact (tE0_ts (by omega) h).2 hi h0 j hj, fun j h1 h2 => by omega⟩, take_succ_getD hi]
  simp [List.take_take]
theorem cmp_le {c : Int} {x t : Ti} (e1 : c < 0 ↔ bef x t) (e2 : c = 0 ↔ x.a = t.a ∧ x.b = t.b) : c ≤ 0 ↔ ¬ bef t x := by
  constructor
  · intro z q
    rcases Int.lt_or_eq_of_le z with z | z
    · exact bef_irr _ (bef_trans (e1.1 z) q)
    · have := e2.1 z
      rcases q with q | q
      · rw [this.1] at q; exact sLt_irr _ q
      · rw [this.2] at q; exact sLt_irr _ q.2
  · intro z
    rcases bef_tri x t with q | q | q
    · have := e1.2 q; omega
    · have := e2.2 q; omega
    · exact absurd q z
variable [Flag]
theorem load_ok {h0 : AH} (w : WfH h0) (v : RlV) (r : Rl) (H : RlOk h0 v r) :
    Fn Tryz.prog Xh 33 [v.val] h0 (fun u h' => (∃ p, u = .tuple #[.pointer (some ⟨p, 0, none⟩), .int .i64 0, .int .i64 0] ∧ VRl r ∧ Hs h0 h' [bookR p r]) ∨ (∃ i e, u = .tuple #[.pointer none, .int .i64 i, .int .i64 e] ∧ Bad r i e ∧ Hs h0 h' [])) := by
  have S := Hs.start w
  have hgl := H.len
  have hrg := H.rg
  have hrt := H.rt
  have hlg := H.lg
  have hlt := H.lt
  unfold RlV.val
  refine Fn_K rfl Tryz.func33 rfl rfl ?_
  all_goals (repeat' (first | refine K_seq ?_ | (refine K_region (id := 0) ?_; (refine bx S ?_; clear S; intro b h S); refine mv ?_; refine mv ?_; refine mv ?_; refine KO_nil ?_) | (refine K_region (id := 1) ?_; skip)))
  (refine KO_fn rfl rfl rfl rfl rfl ((new_ok S.wf).mono ?_); rintro _ h ⟨p, rfl, x⟩) <;> (replace S := S.join1 x; clear x; refine mv ?_; refine KO_nil ?_)
  all_goals (repeat' (first | refine K_seq ?_ | refine k_block ?_ | (refine K_region (id := 2) ?_; refine vl ?_; refine lB S rfl rfl ?_; refine lnB S ?_; refine mv ?_; refine KO_nil ?_)))
  obtain ⟨q, hnm⟩ : ∃ x, x = b := ⟨_, rfl⟩; subst hnm
  replace S : Hs h0 h [bookR p ⟨[], []⟩, .blk q [v.vg.val, v.vt.val] 32] := S
  refine k_loop (σ := Nat) (fun i h' => Hs h0 h' [bookR p ⟨r.us.take i, []⟩, .blk q [v.vg.val, v.vt.val] 32] ∧ i ≤ r.us.length ∧ ∀ k, k < i → gE0 r.us k = 0) (fun i => r.us.length - i) (fun i => [(1, .pointer (some ⟨q, 0, none⟩)), (5, .pointer (some ⟨p, 0, none⟩)), (14, v.vg.val), (15, .int .i64 v.gs.length), (16, .int .i64 i)]) 0 (by repeat (first | exact Ks.le_nil _ | refine Ks.le_cons rfl ?_)) ?_ ?_
  · exact ⟨S, Nat.zero_le _, fun j hj => absurd hj (Nat.not_lt_zero _)⟩
  clear S
  rintro i h ⟨S, g1, g2⟩
  have hi64 := gE0_len g1 g2
  all_goals (repeat' (first | refine K_seq ?_ | refine k_cond rfl ?_ | refine K_skip ?_ | refine K_exit ?_ | refine k_block ?_ | (refine K_region (id := 3) ?_; (first | (refine cS ?_ ?_ <;> intro hc)) <;> (refine KO_nil ?_)) | (refine K_region (id := 4) ?_; refine mv ?_; refine ixB S ?_; refine lEB S ?_; (refine al S ?_; clear S; intro b h S); refine mv ?_; (first | (refine sB S rfl rfl ?_; clear S; intro h S)); refine KO_nil ?_) | (refine K_region (id := 5) ?_; refine mv ?_; refine lB S rfl rfl ?_) | (refine K_region (id := 9) ?_; refine vl ?_; refine lB S rfl rfl ?_; refine lnB S ?_; refine mv ?_; refine KO_nil ?_)))
  · have hil : i < v.gs.length := by omega
    have hat := H.at_ hil
    simp only [Int.toNat_natCast] at S
    simp only [Int.toNat_natCast]
    have htl : (r.us.take i).length ≤ 64 := by simp; omega
    (refine KO_fn rfl rfl rfl rfl rfl ((add_ok (S.front (.there .here)) (v.gs.getD i default) (RdS.base w (H.tg i hil).1) (H.tg i hil).2 htl).mono ?_); rintro _ h ⟨rfl, S⟩) <;> (refine mv ?_; refine KO_nil ?_)
    rw [hat] at S
    simp only [hat]
    all_goals (repeat' (first | refine K_seq ?_ | refine k_cond rfl ?_ | refine K_skip ?_ | (refine K_region (id := 6) ?_; refine mv ?_; (first | (refine cS ?_ ?_ <;> intro hc)) <;> (refine KO_nil ?_)) | (refine K_region (id := 7) ?_; refine mv ?_; refine mv ?_; refine mv ?_; refine mv ?_; refine mv ?_; refine KO_nil ?_) | (refine K_region (id := 8) ?_; refine ad ?_; refine mv ?_; refine KO_nil ?_)))
    · refine K_ret ⟨_, rfl, ?_⟩
      exact .inr ⟨i, _, rfl, ⟨hc, .inl ⟨i, by omega, g2, rfl, rfl⟩⟩, S.drop⟩
    · have hz : gE0 r.us i = 0 := Classical.not_not.1 hc
      rw [(addF_zero hz).2.2.2] at S
      refine ⟨i + 1, ?_, ?_, (by repeat (first | exact Ks.le_nil _ | refine Ks.le_cons rfl ?_))⟩
      · show r.us.length - (i + 1) < r.us.length - i; omega
      · refine ⟨?_, by omega, nxtD g2 hz⟩
        rw [take_succ_getD (by omega)]
        exact S.pick
  · obtain rfl : i = r.us.length := by omega
    rw [List.take_length] at S
    refine k_loop (σ := Nat) (fun i h' => Hs h0 h' [bookR p ⟨r.us, r.ts.take i⟩, .blk q [v.vg.val, v.vt.val] 32] ∧ i ≤ r.ts.length ∧ ∀ k, k < i → tE0 r k = 0) (fun i => r.ts.length - i) (fun i => [(1, .pointer (some ⟨q, 0, none⟩)), (5, .pointer (some ⟨p, 0, none⟩)), (30, v.vt.val), (31, .int .i64 r.ts.length), (32, .int .i64 i)]) 0 (by repeat (first | exact Ks.le_nil _ | refine Ks.le_cons rfl ?_)) ?_ ?_
    · exact ⟨S, Nat.zero_le _, fun j hj => absurd hj (Nat.not_lt_zero _)⟩
    clear S
    rintro i h ⟨S, k1, k2⟩
    have hi256 := tE0_len k1 k2
    have hTS := (tE0_ts k1 k2).1
    have htl : (r.ts.take i).length ≤ 256 := by simp; omega
    all_goals (repeat' (first | refine K_seq ?_ | refine k_cond rfl ?_ | refine K_skip ?_ | refine K_exit ?_ | refine k_block ?_ | (refine K_region (id := 10) ?_; (first | (refine cS ?_ ?_ <;> intro hc)) <;> (refine KO_nil ?_)) | (refine K_region (id := 11) ?_; refine mv ?_; refine ixB S ?_; refine lEB S ?_; (refine al S ?_; clear S; intro b h S); refine mv ?_; (first | (refine sB S rfl rfl ?_; clear S; intro h S)); refine KO_nil ?_) | (refine K_region (id := 12) ?_; refine mv ?_; refine KO_nil ?_) | (refine K_region (id := 18) ?_; refine mv ?_; refine mv ?_; refine mv ?_; refine mv ?_; refine KO_nil ?_)))
    · obtain ⟨t, ht⟩ : ∃ t, t = r.ts.getD i default := ⟨_, rfl⟩
      simp only [Int.toNat_natCast] at S
      simp only [Int.toNat_natCast]
      replace S : Hs h0 h [.blk b (eTi t) 111, bookR p ⟨r.us, r.ts.take i⟩, .blk q [v.vg.val, v.vt.val] 32] := by rw [ht]; exact S
      (repeat (refine K_seq ?_)); first | refine K_join (σ := Rl) (fun r' h' => Hs h0 h' [bookR p r', .blk q [v.vg.val, v.vt.val] 32] ∧ (tE0 r i = 0 → r' = ⟨r.us, r.ts.take (i + 1)⟩)) (fun r' => [(1, .pointer (some ⟨q, 0, none⟩)), (5, .pointer (some ⟨p, 0, none⟩)), (9, .int .i64 i), (11, .int .i64 (tE0 r i)), (30, v.vt.val), (31, .int .i64 r.ts.length), (32, .int .i64 i)]) ?_ ?_
      · have he1 : sLt t.a t.b → (i = 0 ∨ ¬ bef t (r.ts.getD (i - 1) default)) → tE0 r i = (tieF ⟨r.us, r.ts.take i⟩ t.a t.b t.k).2 := fun z1 z2 => by rw [ht] at z1 z2 ⊢; unfold tE0; rw [if_pos ⟨z1, z2⟩]
        have he2 : ¬ (sLt t.a t.b ∧ (i = 0 ∨ ¬ bef t (r.ts.getD (i - 1) default))) → tE0 r i = 23 := fun z => by rw [ht] at z; unfold tE0; rw [if_neg z]
        have he3 : tE0 r i = 0 → (tieF ⟨r.us, r.ts.take i⟩ t.a t.b t.k).1 = ⟨r.us, r.ts.take (i + 1)⟩ := fun z => by rw [ht]; exact tE0_put (by omega) k2 z
        all_goals (repeat' (first | refine k_cond rfl ?_ | refine K_skip ?_ | (refine K_draw (id := 13) ?_; refine vl ?_; refine lB S rfl rfl ?_; refine vl ?_; refine lB S rfl rfl ?_; (refine tO ?_ ?_ <;> intro hc) <;> (refine mv ?_; (first | refine off ?_ | refine mv ?_); (first | refine off ?_ | (first | (refine cS ?_ ?_ <;> intro hc))) <;> ((first | refine off ?_ | refine mv ?_); (first | refine off ?_ | (refine vl ?_)); (first | refine off ?_ | (refine lB S rfl rfl ?_)); (first | refine off ?_ | refine mv ?_); (first | refine off ?_ | (refine sb ?_)); (first | refine off ?_ | (refine ixB S ?_)); (first | refine off ?_ | (refine lEB S ?_)); (first | refine off ?_ | (refine lB S rfl rfl ?_)); (first | (refine off ?_; (refine off ?_) <;> ((first | refine off ?_ | refine vl ?_); refine vl ?_; refine KO_nil ?_)) | skip))))))
        · all_goals (repeat' (first | (refine K_region (id := 14) ?_; refine mv ?_; refine vl ?_; refine lB S rfl rfl ?_; refine vl ?_; refine lB S rfl rfl ?_; refine vl ?_; refine lB S rfl rfl ?_)))
          (refine KO_fn rfl rfl rfl rfl rfl ((tie_ok (S.front (.there .here)) t.a t.b t.k htl hTS).mono ?_); rintro _ h ⟨rfl, S⟩) <;> (refine mv ?_; refine KO_nil ?_)
          have he := he1 (by assumption) (.inl (by omega))
          refine ⟨_, ⟨S.pick, he3⟩, ?_⟩
          rw [he]
          exact (by repeat (first | exact Ks.le_nil _ | refine Ks.le_cons rfl ?_))
        · (refine KO_fn rfl rfl rfl rfl rfl ((order_ok S.wf (r.ts.getD ((i : Int) - 1).toNat default) t).mono ?_); rintro _ h ⟨⟨c, rfl, e1, e2⟩, x⟩) <;> (replace S := S.join0 x; clear x; (first | (first | (refine cS ?_ ?_ <;> intro hc))) <;> ((refine vl ?_); refine vl ?_; refine KO_nil ?_))
          all_goals rw [show ((i : Int) - 1).toNat = i - 1 by omega] at e1 e2
          all_goals have ec := cmp_le e1 e2
          all_goals (repeat' (first | refine k_cond rfl ?_ | refine K_skip ?_))
          · all_goals (repeat' (first | (refine K_region (id := 14) ?_; refine mv ?_; refine vl ?_; refine lB S rfl rfl ?_; refine vl ?_; refine lB S rfl rfl ?_; refine vl ?_; refine lB S rfl rfl ?_)))
            (refine KO_fn rfl rfl rfl rfl rfl ((tie_ok (S.front (.there .here)) t.a t.b t.k htl hTS).mono ?_); rintro _ h ⟨rfl, S⟩) <;> (refine mv ?_; refine KO_nil ?_)
            have he := he1 (by assumption) (.inr (ec.1 (by assumption)))
            refine ⟨_, ⟨S.pick, he3⟩, ?_⟩
            rw [he]
            exact (by repeat (first | exact Ks.le_nil _ | refine Ks.le_cons rfl ?_))
          · have he := he2 (fun z => z.2.elim (fun q => by omega) (fun q => absurd (ec.2 q) (by assumption)))
            refine ⟨⟨r.us, r.ts.take i⟩, ⟨S.pick, fun q => by rw [he] at q; cases q⟩, ?_⟩
            rw [he]
            exact (by repeat (first | exact Ks.le_nil _ | refine Ks.le_cons rfl ?_))
        · have he := he2 (fun z => absurd z.1 (by assumption))
          refine ⟨⟨r.us, r.ts.take i⟩, ⟨S.pick, fun q => by rw [he] at q; cases q⟩, ?_⟩
          rw [he]
          exact (by repeat (first | exact Ks.le_nil _ | refine Ks.le_cons rfl ?_))
      · clear S
        rintro r' h ⟨S, hr'⟩
        skip
        all_goals (repeat' (first | refine K_seq ?_ | refine k_cond rfl ?_ | refine K_skip ?_ | (refine K_region (id := 15) ?_; refine mv ?_; (first | (refine cS ?_ ?_ <;> intro hc)) <;> (refine KO_nil ?_)) | (refine K_draw (id := 16) ?_; refine vl ?_; refine lB S rfl rfl ?_; refine lnB S ?_; refine mv ?_; refine ad ?_; refine mv ?_; refine mv ?_; refine mv ?_; refine mv ?_; refine KO_nil ?_) | (refine K_region (id := 17) ?_; refine ad ?_; refine mv ?_; refine KO_nil ?_)))
        · refine K_ret ⟨_, rfl, ?_⟩
          exact .inr ⟨_, _, rfl, ⟨hc, .inr ⟨g2, i, by omega, k2, rfl, by rw [hgl]⟩⟩, S.drop⟩
        · have hz : tE0 r i = 0 := Classical.not_not.1 hc
          obtain rfl := hr' hz
          refine ⟨i + 1, ?_, ?_, (by repeat (first | exact Ks.le_nil _ | refine Ks.le_cons rfl ?_))⟩
          · show r.ts.length - (i + 1) < r.ts.length - i; omega
          · exact ⟨S, by omega, nxtD k2 hz⟩
    · refine K_ret ⟨_, rfl, ?_⟩
      obtain rfl : i = r.ts.length := by omega
      rw [List.take_length] at S
      exact .inl ⟨p, rfl, ⟨g2, k2⟩, S.pick⟩
end Go.Proofs.Xx

/-
  Right rolls, as a list of facts; names of numbers.
-/
namespace Go.Proofs.Xx
open Go Go.Proofs
set_option linter.unusedSimpArgs false
set_option linter.unusedVariables false
set_option linter.unusedSectionVars false
set_option maxRecDepth 100000

theorem gat_none {us : List Gu} {n : List UInt8} : gat us n = none ↔ ∀ g ∈ us, g.name ≠ n := by
  induction us with
  | nil => simp [gat]
  | cons x r ih =>
    simp only [gat]
    by_cases h : x.name = n
    · simp [h]
    · simp only [if_neg h, Option.map_eq_none_iff, ih, List.mem_cons]
      constructor
      · rintro q g (rfl | hg)
        · exact h
        · exact q g hg
      · exact fun q g hg => q g (.inr hg)
theorem gat_some {us : List Gu} {n : List UInt8} {i : Nat} (h : gat us n = some i) : i < us.length ∧ (us.getD i default).name = n ∧ ∀ j, j < i → (us.getD j default).name ≠ n := by
  induction us generalizing i with
  | nil => cases h
  | cons x r ih =>
    simp only [gat] at h
    by_cases hx : x.name = n
    · rw [if_pos hx] at h; cases h
      exact ⟨by simp, hx, fun j hj => absurd hj (Nat.not_lt_zero _)⟩
    · rw [if_neg hx] at h
      cases hr : gat r n with
      | none => rw [hr] at h; cases h
      | some k =>
        rw [hr] at h; cases h
        obtain ⟨h1, h2, h3⟩ := ih hr
        refine ⟨by simp; omega, h2, fun j hj => ?_⟩
        cases j with
        | zero => exact hx
        | succ j => exact h3 j (by simp only at hj; omega)
theorem gat_mem {us : List Gu} {n : List UInt8} : gat us n ≠ none ↔ ∃ g ∈ us, g.name = n := by
  rw [Ne, gat_none]
  constructor
  · intro h
    apply Classical.byContradiction
    intro q
    exact h fun g hg e => q ⟨g, hg, e⟩
  · rintro ⟨g, hg, e⟩ q
    exact q g hg e
theorem mem_getD {α : Type} [Inhabited α] {l : List α} {i : Nat} (h : i < l.length) : l.getD i default ∈ l := by
  rw [List.getD_eq_getElem?_getD, List.getElem?_eq_getElem h]; exact List.getElem_mem h
theorem mem_iff_getD {α : Type} [Inhabited α] {l : List α} {x : α} : x ∈ l ↔ ∃ i, i < l.length ∧ l.getD i default = x := by
  constructor
  · intro h
    obtain ⟨i, hi, rfl⟩ := List.mem_iff_getElem.1 h
    exact ⟨i, hi, by rw [List.getD_eq_getElem?_getD, List.getElem?_eq_getElem hi]; rfl⟩
  · rintro ⟨i, hi, rfl⟩
    exact mem_getD hi
/-- A right roll, as a list of facts. -/
structure RO (r : Rl) : Prop where
  chk : ∀ g ∈ r.us, chkG g = 0
  nd : ∀ i j, i < j → j < r.us.length → (r.us.getD i default).name ≠ (r.us.getD j default).name
  l64 : r.us.length ≤ 64
  ts : TS r.ts
  tt : ∀ t ∈ r.ts, sLt t.a t.b ∧ (t.k = 1 ∨ t.k = 2) ∧ gat r.us t.a ≠ none ∧ gat r.us t.b ≠ none
  l256 : r.ts.length ≤ 256
theorem RO.gat {r : Rl} (h : RO r) {i : Nat} (hi : i < r.us.length) : gat r.us (r.us.getD i default).name = some i := by
  cases hq : Xx.gat r.us (r.us.getD i default).name with
  | none => exact absurd rfl (gat_none.1 hq _ (mem_getD hi))
  | some j =>
    obtain ⟨h1, h2, h3⟩ := gat_some hq
    rcases Nat.lt_trichotomy i j with q | q | q
    · exact absurd rfl (h3 i q)
    · rw [q]
    · exact absurd h2 (h.nd j i q hi)
theorem gE0_iff {us : List Gu} {i : Nat} (hi : i < us.length) : gE0 us i = 0 ↔ chkG (us.getD i default) = 0 ∧ (∀ j, j < i → (us.getD j default).name ≠ (us.getD i default).name) ∧ i < 64 := by
  unfold gE0
  have hl : (us.take i).length = i := by simp; omega
  have hg : Xx.gat (us.take i) (us.getD i default).name = none ↔ ∀ j, j < i → (us.getD j default).name ≠ (us.getD i default).name := by
    rw [gat_none]
    constructor
    · intro h j hj
      have := h _ (mem_getD (show j < (us.take i).length by omega))
      rwa [getD_take hj] at this
    · intro h g hg
      obtain ⟨j, hj, rfl⟩ := mem_iff_getD.1 hg
      rw [getD_take (by omega)]
      exact h j (by omega)
  constructor
  · intro h
    obtain ⟨h1, h2, h3, -⟩ := addF_zero h
    exact ⟨h1, hg.1 h2, by simpa [hl] using h3⟩
  · rintro ⟨h1, h2, h3⟩
    rw [addF_0 h1 (hg.2 h2) (by show ¬ 64 ≤ (us.take i).length; omega)]
theorem tied_iff {ts : List Ti} {a b : List UInt8} (h : sLt a b) : tied ts a b ↔ ∃ t ∈ ts, t.a = a ∧ t.b = b := by unfold tied; rw [sMin_lt h, sMax_lt h]
theorem VRl_iff {r : Rl} : VRl r ↔ RO r := by
  constructor
  · rintro ⟨h1, h2⟩
    refine ⟨fun g hg => ?_, fun i j hij hj => ((gE0_iff hj).1 (h1 j hj)).2.1 i hij, gE0_len (Nat.le_refl _) h1, ?_, fun t ht => ?_, tE0_len (Nat.le_refl _) h2⟩
    · obtain ⟨i, hi, rfl⟩ := mem_iff_getD.1 hg
      exact ((gE0_iff hi).1 (h1 i hi)).1
    · have := (tE0_ts (Nat.le_refl _) h2).1
      rwa [List.take_length] at this
    · obtain ⟨i, hi, rfl⟩ := mem_iff_getD.1 ht
      obtain ⟨z1, z2, z3⟩ := tE0_zero (h2 i hi)
      obtain ⟨y1, y2, y3, y4, y5, y6, y7⟩ := tieF_zero z3
      exact ⟨z1, y1, y3, y4⟩
  · intro h
    refine ⟨fun i hi => (gE0_iff hi).2 ⟨h.chk _ (mem_getD hi), fun j hj => h.nd j i hj hi, by have := h.l64; omega⟩, fun i hi => ?_⟩
    obtain ⟨z1, z2, z3, z4⟩ := h.tt _ (mem_getD hi)
    have hb : ∀ j, j < i → bef (r.ts.getD j default) (r.ts.getD i default) := fun j hj => h.ts.lt hj hi
    have hz : i = 0 ∨ ¬ bef (r.ts.getD i default) (r.ts.getD (i - 1) default) := by
      rcases Nat.eq_zero_or_pos i with q | q
      · exact .inl q
      · exact .inr fun q2 => bef_irr _ (bef_trans (hb (i - 1) (by omega)) q2)
    unfold tE0
    rw [if_pos ⟨z1, hz⟩, tieF_0]
    · rintro (q | q)
      · omega
      · rw [q] at z1; exact sLt_irr _ z1
    · rintro (q | q)
      · exact z3 q
      · exact z4 q
    · rw [tied_iff z1]
      rintro ⟨t, ht, e1, e2⟩
      obtain ⟨j, hj, rfl⟩ := mem_iff_getD.1 ht
      have hl : (r.ts.take i).length = i := by simp; omega
      replace hj : j < i := by rw [← hl]; exact hj
      rw [getD_take (by omega)] at e1 e2
      rcases hb j (by omega) with q | q
      · rw [e1] at q; exact sLt_irr _ q
      · rw [e2] at q; exact sLt_irr _ q.2
    · have := h.l256; simp; omega
/-- The name of a number. -/
def num (j : Nat) : List UInt8 := [UInt8.ofNat (97 + j / 26 % 26), UInt8.ofNat (97 + j % 26)]
theorem u8lt {a b : Nat} (ha : a < 256) (hb : b < 256) : UInt8.ofNat a < UInt8.ofNat b ↔ a < b := by
  rw [UInt8.lt_iff_toNat_lt]
  simp [UInt8.toNat_ofNat, Nat.mod_eq_of_lt ha, Nat.mod_eq_of_lt hb]
theorem u8eq {a b : Nat} (ha : a < 256) (hb : b < 256) : UInt8.ofNat a = UInt8.ofNat b ↔ a = b := by
  constructor
  · intro h
    have := congrArg UInt8.toNat h
    simpa [UInt8.toNat_ofNat, Nat.mod_eq_of_lt ha, Nat.mod_eq_of_lt hb] using this
  · rintro rfl; rfl
theorem num_lt {i j : Nat} (hi : i < 676) (hj : j < 676) : sLt (num i) (num j) ↔ i < j := by
  unfold num
  rw [sLt_cons, sLt_cons, u8lt (by omega) (by omega), u8eq (by omega) (by omega), u8lt (by omega) (by omega)]
  constructor
  · rintro (h | ⟨h1, h2 | ⟨h2, h3⟩⟩)
    · omega
    · omega
    · exact absurd h3 (sLt_irr _)
  · intro h
    rcases Nat.lt_or_ge (i / 26) (j / 26) with q | q
    · exact .inl (by omega)
    · exact .inr ⟨by omega, .inl (by omega)⟩
variable [Flag]
end Go.Proofs.Xx

/-
  Swapping within a range of a list; ranges in order.
-/
namespace Go.Proofs.Xx
set_option linter.unusedVariables false
set_option linter.unusedSectionVars false

section
variable {α : Type} [Inhabited α]
theorem getD_set (l : List α) {i : Nat} (x : α) (h : i < l.length) (j : Nat) : (l.set i x).getD j default = if j = i then x else l.getD j default := by
  rw [List.getD_eq_getElem?_getD, List.getD_eq_getElem?_getD, List.getElem?_set]
  by_cases e : i = j
  · subst e; rw [if_pos rfl, if_pos rfl, if_pos h]; rfl
  · rw [if_neg e, if_neg (fun q => e q.symm)]
/-- Two elements change places. -/
def swp (l : List α) (i j : Nat) : List α := (l.set i (l.getD j default)).set j (l.getD i default)
theorem swp_len (l : List α) (i j : Nat) : (swp l i j).length = l.length := by simp [swp]
theorem swp_get {l : List α} {i j : Nat} (hi : i < l.length) (hj : j < l.length) (k : Nat) : (swp l i j).getD k default = if k = j then l.getD i default else if k = i then l.getD j default else l.getD k default := by
  unfold swp
  rw [getD_set _ _ (by simpa using hj), getD_set _ _ hi]
theorem swp_perm {l : List α} {i j : Nat} (hi : i < l.length) (hj : j < l.length) : (swp l i j).Perm l := by
  unfold swp
  have e1 : l.getD i default = l[i] := by simp [List.getD_eq_getElem?_getD, List.getElem?_eq_getElem hi]
  have e2 : l.getD j default = l[j] := by simp [List.getD_eq_getElem?_getD, List.getElem?_eq_getElem hj]
  rw [e1, e2]
  exact List.set_set_perm hi hj

/-- l' is l, with elements in [a, b) exchanged. -/
inductive Sw (a b : Nat) : List α → List α → Prop
  | refl (l : List α) : Sw a b l l
  | step {l l' : List α} (i j : Nat) (h : Sw a b l l') (hi : a ≤ i ∧ i < b) (hj : a ≤ j ∧ j < b) (hb : b ≤ l'.length) : Sw a b l (swp l' i j)
theorem Sw.len {a b : Nat} {l l' : List α} (h : Sw a b l l') : l'.length = l.length := by
  induction h with
  | refl => rfl
  | step i j h hi hj hb ih => rw [swp_len, ih]
theorem Sw.perm {a b : Nat} {l l' : List α} (h : Sw a b l l') : l'.Perm l := by
  induction h with
  | refl => exact .refl _
  | step i j h hi hj hb ih => exact (swp_perm (by omega) (by omega)).trans ih
theorem Sw.out {a b : Nat} {l l' : List α} (h : Sw a b l l') {k : Nat} (hk : k < a ∨ b ≤ k) : l'.getD k default = l.getD k default := by
  induction h with
  | refl => rfl
  | step i j h hi hj hb ih => rw [swp_get (by omega) (by omega), if_neg (by omega), if_neg (by omega), ih]
theorem Sw.in_ {a b : Nat} {l l' : List α} (h : Sw a b l l') : ∀ {k : Nat}, a ≤ k → k < b → ∃ m, a ≤ m ∧ m < b ∧ l'.getD k default = l.getD m default := by
  induction h with
  | refl => intro k h1 h2; exact ⟨k, h1, h2, rfl⟩
  | step i j h hi hj hb ih =>
    intro k h1 h2
    rw [swp_get (by omega) (by omega)]
    split
    · exact ih hi.1 hi.2
    · split
      · exact ih hj.1 hj.2
      · exact ih h1 h2
theorem Sw.trans {a b : Nat} {l m n : List α} (h : Sw a b l m) (g : Sw a b m n) : Sw a b l n := by
  induction g with
  | refl => exact h
  | step i j g hi hj hb ih => exact .step i j ih hi hj hb
theorem Sw.mono {a b a' b' : Nat} {l m : List α} (h : Sw a b l m) (ha : a' ≤ a) (hb : b ≤ b') (hl : b' ≤ l.length) : Sw a' b' l m := by
  induction h with
  | refl => exact .refl _
  | step i j g hi hj hbl ih =>
    exact .step i j ih ⟨by omega, by omega⟩ ⟨by omega, by omega⟩ (by rw [g.len]; exact hl)
theorem Sw.one {a b : Nat} {l : List α} (i j : Nat) (hi : a ≤ i ∧ i < b) (hj : a ≤ j ∧ j < b) (hb : b ≤ l.length) : Sw a b l (swp l i j) := .step i j (.refl l) hi hj hb

/-- An order by weight. -/
structure WOrd (lt : α → α → Prop) : Prop where
  irr : ∀ x, ¬ lt x x
  tr : ∀ {x y z}, lt x y → lt y z → lt x z
  ntr : ∀ {x y z}, ¬ lt y x → ¬ lt z y → ¬ lt z x
theorem WOrd.asym {lt : α → α → Prop} (W : WOrd lt) {x y : α} (h : lt x y) : ¬ lt y x := fun g => W.irr x (W.tr h g)

/-- The elements in [a, b) stand in order. -/
def Srt (lt : α → α → Prop) (a b : Nat) (l : List α) : Prop := ∀ i j, a ≤ i → i < j → j < b → ¬ lt (l.getD j default) (l.getD i default)
/-- From neighbours. -/
theorem Srt.adj {lt : α → α → Prop} (W : WOrd lt) {a b : Nat} {l : List α} (h : ∀ i, a ≤ i → i + 1 < b → ¬ lt (l.getD (i + 1) default) (l.getD i default)) : Srt lt a b l := by
  intro i j h1 h2 h3
  induction j with
  | zero => omega
  | succ j ih =>
    rcases Nat.lt_or_ge i j with q | q
    · exact W.ntr (ih q (by omega)) (h j (by omega) h3)
    · have : i = j := by omega
      subst this; exact h i h1 h3

/-! ### insertion -/
/-- [a, i] stands in order but for the element at j, which is on its way down. -/
def InsI (lt : α → α → Prop) (a i j : Nat) (l : List α) : Prop := ∀ p q, a ≤ p → p < q → q ≤ i → q ≠ j → ¬ lt (l.getD q default) (l.getD p default)
theorem InsI.start {lt : α → α → Prop} {a i : Nat} {l : List α} (h : Srt lt a i l) : InsI lt a i i l := fun p q h1 h2 h3 h4 => h p q h1 h2 (by omega)
theorem InsI.next {lt : α → α → Prop} (W : WOrd lt) {a i j : Nat} {l : List α} (h : InsI lt a i j l) (hj : a < j) (hji : j ≤ i) (hl : i < l.length) (hc : lt (l.getD j default) (l.getD (j - 1) default)) : InsI lt a i (j - 1) (swp l j (j - 1)) := by
  intro p q h1 h2 h3 h4
  have g := swp_get (l := l) (i := j) (j := j - 1) (by omega) (by omega)
  rw [g q, g p, if_neg h4]
  by_cases e1 : q = j
  · subst e1
    rw [if_pos rfl]
    by_cases e2 : p = q - 1
    · rw [if_pos e2]; exact W.asym hc
    · rw [if_neg e2, if_neg (by omega)]; exact h p (q - 1) h1 (by omega) (by omega) (by omega)
  · rw [if_neg e1]
    by_cases e2 : p = j - 1
    · rw [if_pos e2]; exact h j q (by omega) (by omega) h3 e1
    · rw [if_neg e2]
      by_cases e3 : p = j
      · rw [if_pos e3]; exact h (j - 1) q (by omega) (by omega) h3 e1
      · rw [if_neg e3]; exact h p q h1 h2 h3 e1
theorem InsI.done {lt : α → α → Prop} (W : WOrd lt) {a i j : Nat} {l : List α} (h : InsI lt a i j l) (hc : j ≤ a ∨ ¬ lt (l.getD j default) (l.getD (j - 1) default)) : Srt lt a (i + 1) l := by
  intro p q h1 h2 h3
  by_cases e : q = j
  · subst e
    rcases hc with hc | hc
    · omega
    · by_cases e2 : p = q - 1
      · rw [e2]; exact hc
      · exact W.ntr (h p (q - 1) h1 (by omega) (by omega) (by omega)) hc
  · exact h p q h1 h2 (by omega) e

/-! ### heaps -/
def HeapAt (lt : α → α → Prop) (f hi k : Nat) (l : List α) : Prop :=
  (2 * k + 1 < hi → ¬ lt (l.getD (f + k) default) (l.getD (f + (2 * k + 1)) default)) ∧ (2 * k + 2 < hi → ¬ lt (l.getD (f + k) default) (l.getD (f + (2 * k + 2)) default))
def Heap (lt : α → α → Prop) (f lo hi : Nat) (l : List α) : Prop := ∀ k, lo ≤ k → HeapAt lt f hi k l
/-- A heap but for the element at root, which is on its way down. -/
def SiftI (lt : α → α → Prop) (f lo hi root : Nat) (l : List α) : Prop :=
  (∀ k, lo ≤ k → k ≠ root → HeapAt lt f hi k l) ∧ ∀ k, lo ≤ k → (root = 2 * k + 1 ∨ root = 2 * k + 2) → ∀ c, (c = 2 * root + 1 ∨ c = 2 * root + 2) → c < hi → ¬ lt (l.getD (f + k) default) (l.getD (f + c) default)
theorem SiftI.start {lt : α → α → Prop} {f lo hi : Nat} {l : List α} (h : Heap lt f (lo + 1) hi l) : SiftI lt f lo hi lo l := ⟨fun k h1 h2 => h k (by omega), fun k h1 h2 => by omega⟩
theorem SiftI.done {lt : α → α → Prop} {f lo hi root : Nat} {l : List α} (h : SiftI lt f lo hi root l) (hc : HeapAt lt f hi root l) : Heap lt f lo hi l := fun k h1 => by
  by_cases e : k = root
  · subst e; exact hc
  · exact h.1 k h1 e
theorem SiftI.next {lt : α → α → Prop} (W : WOrd lt) {f lo hi root c : Nat} {l : List α} (h : SiftI lt f lo hi root l) (hr : lo ≤ root) (hcc : c = 2 * root + 1 ∨ c = 2 * root + 2) (hch : c < hi) (hl : f + hi ≤ l.length)
    (hm : ∀ d, (d = 2 * root + 1 ∨ d = 2 * root + 2) → d < hi → ¬ lt (l.getD (f + c) default) (l.getD (f + d) default)) (hc : lt (l.getD (f + root) default) (l.getD (f + c) default)) :
    SiftI lt f lo hi c (swp l (f + root) (f + c)) := by
  have g := swp_get (l := l) (i := f + root) (j := f + c) (by omega) (by omega)
  -- the element at k, after the exchange
  have at_c : (swp l (f + root) (f + c)).getD (f + c) default = l.getD (f + root) default := by rw [g, if_pos rfl]
  have at_r : (swp l (f + root) (f + c)).getD (f + root) default = l.getD (f + c) default := by rw [g, if_neg (by omega), if_pos rfl]
  have at_o : ∀ k, k ≠ c → k ≠ root → (swp l (f + root) (f + c)).getD (f + k) default = l.getD (f + k) default := fun k h1 h2 => by rw [g, if_neg (by omega), if_neg (by omega)]
  refine ⟨fun k h1 h2 => ?_, fun k h1 h2 d hd hdh => ?_⟩
  · by_cases e : k = root
    · subst e
      refine ⟨fun q => ?_, fun q => ?_⟩
      · rw [at_r]
        by_cases e1 : 2 * k + 1 = c
        · rw [e1, at_c]; exact W.asym hc
        · rw [at_o _ e1 (by omega)]; exact hm _ (.inl rfl) q
      · rw [at_r]
        by_cases e1 : 2 * k + 2 = c
        · rw [e1, at_c]; exact W.asym hc
        · rw [at_o _ e1 (by omega)]; exact hm _ (.inr rfl) q
    · have hk := h.1 k h1 e
      rw [HeapAt, at_o k h2 e]
      refine ⟨fun q => ?_, fun q => ?_⟩
      · by_cases e1 : 2 * k + 1 = root
        · rw [e1, at_r]; exact h.2 k h1 (.inl e1.symm) c hcc hch
        · by_cases e2 : 2 * k + 1 = c
          · omega
          · rw [at_o _ e2 e1]; exact hk.1 q
      · by_cases e1 : 2 * k + 2 = root
        · rw [e1, at_r]; exact h.2 k h1 (.inr e1.symm) c hcc hch
        · by_cases e2 : 2 * k + 2 = c
          · omega
          · rw [at_o _ e2 e1]; exact hk.2 q
  · have e : k = root := by omega
    subst e
    rw [at_r, at_o d (by omega) (by omega)]
    have hk := h.1 c (by omega) (by omega)
    rcases hd with hd | hd
    · subst hd; exact hk.1 hdh
    · subst hd; exact hk.2 hdh
theorem Heap.max {lt : α → α → Prop} (W : WOrd lt) {f hi : Nat} {l : List α} (h : Heap lt f 0 hi l) (k : Nat) (hk : k < hi) : ¬ lt (l.getD (f + 0) default) (l.getD (f + k) default) := by
  induction k using Nat.strongRecOn with
  | _ k ih =>
    rcases Nat.eq_zero_or_pos k with e | e
    · subst e; exact W.irr _
    · have hp := h ((k - 1) / 2) (Nat.zero_le _)
      have hi' := ih ((k - 1) / 2) (by omega) (by omega)
      -- ¬ lt root parent, ¬ lt parent k
      rcases (by omega : k = 2 * ((k - 1) / 2) + 1 ∨ k = 2 * ((k - 1) / 2) + 2) with q | q
      · have := hp.1 (by omega)
        rw [← q] at this
        exact W.ntr this hi'
      · have := hp.2 (by omega)
        rw [← q] at this
        exact W.ntr this hi'
/-- The heap is [f, f + i), behind it the greatest stand in order. -/
def HeapI (lt : α → α → Prop) (f i n : Nat) (l : List α) : Prop := Heap lt f 0 i l ∧ ∀ p q, p < q → i ≤ q → q < n → ¬ lt (l.getD (f + q) default) (l.getD (f + p) default)
theorem HeapI.pop {lt : α → α → Prop} (W : WOrd lt) {f i n : Nat} {l l' : List α} (h : HeapI lt f (i + 1) n l) (hin : i < n) (hl : f + n ≤ l.length) (s : Sw f (f + i) (swp l f (f + i)) l') (hh : Heap lt f 0 i l') : HeapI lt f i n l' := by
  refine ⟨hh, fun p q h1 h2 h3 => ?_⟩
  have g := swp_get (l := l) (i := f) (j := f + i) (by omega) (by omega)
  have hq : l'.getD (f + q) default = if q = i then l.getD f default else l.getD (f + q) default := by
    rw [s.out (by omega), g]
    by_cases e : q = i
    · rw [if_pos (by omega), if_pos e]
    · rw [if_neg (by omega), if_neg (by omega), if_neg e]
  rw [hq]
  -- where the element at p was
  have hp : ∃ m, m < n ∧ (m ≤ i ∨ m = p) ∧ m ≤ q ∧ (m < q ∨ q = i) ∧ l'.getD (f + p) default = l.getD (f + m) default := by
    rcases Nat.lt_or_ge p i with q1 | q1
    · obtain ⟨m, m1, m2, m3⟩ := s.in_ (k := f + p) (by omega) (by omega)
      rw [g] at m3
      rw [if_neg (by omega)] at m3
      by_cases e : m = f
      · rw [if_pos e] at m3
        exact ⟨i, by omega, .inl (Nat.le_refl _), by omega, by omega, m3⟩
      · rw [if_neg e] at m3
        exact ⟨m - f, by omega, .inl (by omega), by omega, by omega, by rw [m3]; congr 1; omega⟩
    · rw [s.out (by omega), g]
      by_cases e : p = i
      · refine ⟨0, by omega, .inl (by omega), by omega, by omega, ?_⟩
        rw [if_pos (by omega)]; rfl
      · exact ⟨p, by omega, .inr rfl, by omega, by omega, by rw [if_neg (by omega), if_neg (by omega)]⟩
  obtain ⟨m, m1, m2, m3, m4, m5⟩ := hp
  rw [m5]
  by_cases e : q = i
  · rw [if_pos e]
    exact Heap.max W h.1 m (by omega)
  · rw [if_neg e]
    exact h.2 m q (by omega) (by omega) h3

/-! ### quicksort -/
/-- All pairs in [a, b) stand in order but those within [a', b'). -/
def DoneI (lt : α → α → Prop) (a b a' b' : Nat) (l : List α) : Prop := ∀ i j, a ≤ i → i < j → j < b → (i < a' ∨ b' ≤ j) → ¬ lt (l.getD j default) (l.getD i default)
theorem DoneI.start {lt : α → α → Prop} {a b : Nat} {l : List α} : DoneI lt a b a b l := fun i j h1 h2 h3 h4 => by omega
theorem DoneI.sw {lt : α → α → Prop} {a b a' b' : Nat} {l l' : List α} (h : DoneI lt a b a' b' l) (s : Sw a' b' l l') (h1 : a ≤ a') (h2 : b' ≤ b) : DoneI lt a b a' b' l' := by
  intro i j q1 q2 q3 q4
  rcases q4 with q4 | q4
  · rw [s.out (k := i) (.inl q4)]
    rcases Nat.lt_or_ge j a' with q5 | q5
    · rw [s.out (.inl q5)]; exact h i j q1 q2 q3 (.inl q4)
    · rcases Nat.lt_or_ge j b' with q6 | q6
      · obtain ⟨m, m1, m2, m3⟩ := s.in_ q5 q6
        rw [m3]; exact h i m q1 (by omega) (by omega) (.inl q4)
      · rw [s.out (.inr q6)]; exact h i j q1 q2 q3 (.inl q4)
  · rw [s.out (k := j) (.inr q4)]
    rcases Nat.lt_or_ge i a' with q5 | q5
    · rw [s.out (.inl q5)]; exact h i j q1 q2 q3 (.inl q5)
    · rcases Nat.lt_or_ge i b' with q6 | q6
      · obtain ⟨m, m1, m2, m3⟩ := s.in_ q5 q6
        rw [m3]; exact h m j (by omega) (by omega) q3 (.inr q4)
      · rw [s.out (.inr q6)]; exact h i j q1 q2 q3 (.inr q4)
theorem DoneI.finish {lt : α → α → Prop} {a b a' b' : Nat} {l : List α} (h : DoneI lt a b a' b' l) (s : Srt lt a' b' l) : Srt lt a b l := by
  intro i j q1 q2 q3
  by_cases e : i < a' ∨ b' ≤ j
  · exact h i j q1 q2 q3 e
  · exact s i j (by omega) q2 (by omega)
/-- [a, b) is parted at m: less before it, not less behind it. -/
def Parted (lt : α → α → Prop) (a b m : Nat) (l : List α) : Prop := (∀ k, a ≤ k → k < m → lt (l.getD k default) (l.getD m default)) ∧ ∀ k, m < k → k < b → ¬ lt (l.getD k default) (l.getD m default)
theorem Parted.across {lt : α → α → Prop} (W : WOrd lt) {a b m : Nat} {l : List α} (h : Parted lt a b m l) {i j : Nat} (h1 : a ≤ i) (h2 : i ≤ m) (h3 : m ≤ j) (h4 : j < b) (h5 : i < j) : ¬ lt (l.getD j default) (l.getD i default) := by
  have e1 : ¬ lt (l.getD m default) (l.getD i default) := by
    rcases Nat.lt_or_ge i m with q | q
    · exact W.asym (h.1 i h1 q)
    · have : i = m := by omega
      subst this; exact W.irr _
  have e2 : ¬ lt (l.getD j default) (l.getD m default) := by
    rcases Nat.lt_or_ge m j with q | q
    · exact h.2 j q h4
    · have : j = m := by omega
      subst this; exact W.irr _
  exact W.ntr e1 e2
/-- The left part is put in order: what is left is the right one. -/
theorem DoneI.left {lt : α → α → Prop} (W : WOrd lt) {a b a' b' m : Nat} {l l' : List α} (h : DoneI lt a b a' b' l) (p : Parted lt a' b' m l) (hm : a' ≤ m ∧ m < b') (hab : a ≤ a' ∧ b' ≤ b) (s : Sw a' m l l') (hs : Srt lt a' m l') (hl : b' ≤ l.length) : DoneI lt a b (m + 1) b' l' := by
  have h' := h.sw (s.mono (Nat.le_refl _) (by omega) hl) hab.1 hab.2
  intro i j q1 q2 q3 q4
  by_cases e : i < a' ∨ b' ≤ j
  · exact h' i j q1 q2 q3 e
  · rcases q4 with q4 | q4
    · rcases Nat.lt_or_ge j m with q5 | q5
      · exact hs i j (by omega) q2 q5
      · rw [s.out (k := j) (.inr q5)]
        rcases Nat.lt_or_ge i m with q6 | q6
        · obtain ⟨k, k1, k2, k3⟩ := s.in_ (k := i) (by omega) q6
          rw [k3]; exact p.across W k1 (by omega) q5 (by omega) (by omega)
        · rw [s.out (.inr q6)]; exact p.across W (by omega) (by omega) q5 (by omega) q2
    · omega
theorem DoneI.right {lt : α → α → Prop} (W : WOrd lt) {a b a' b' m : Nat} {l l' : List α} (h : DoneI lt a b a' b' l) (p : Parted lt a' b' m l) (hm : a' ≤ m ∧ m < b') (hab : a ≤ a' ∧ b' ≤ b) (s : Sw (m + 1) b' l l') (hs : Srt lt (m + 1) b' l') (hl : b' ≤ l.length) : DoneI lt a b a' m l' := by
  have h' := h.sw (s.mono (by omega) (Nat.le_refl _) hl) hab.1 hab.2
  intro i j q1 q2 q3 q4
  by_cases e : i < a' ∨ b' ≤ j
  · exact h' i j q1 q2 q3 e
  · rcases q4 with q4 | q4
    · omega
    · rcases Nat.lt_or_ge m i with q5 | q5
      · exact hs i j (by omega) q2 (by omega)
      · rw [s.out (k := i) (.inl (by omega))]
        rcases Nat.lt_or_ge m j with q6 | q6
        · obtain ⟨k, k1, k2, k3⟩ := s.in_ (k := j) (by omega) (by omega)
          rw [k3]; exact p.across W (by omega) q5 (by omega) k2 (by omega)
        · rw [s.out (.inl (by omega))]; exact p.across W (by omega) q5 (by omega) (by omega) q2
/-- Elements that are not greater than x in front, greater ones behind; none is less than x. -/
theorem DoneI.eq_ {lt : α → α → Prop} (W : WOrd lt) {a b a' b' m : Nat} {l : List α} {x : α} (h : DoneI lt a b a' b' l) (hm : a' ≤ m ∧ m ≤ b') (h1 : ∀ k, a' ≤ k → k < m → ¬ lt x (l.getD k default)) (h2 : ∀ k, m ≤ k → k < b' → lt x (l.getD k default)) (h3 : ∀ k, a' ≤ k → k < b' → ¬ lt (l.getD k default) x) : DoneI lt a b m b' l := by
  intro i j q1 q2 q3 q4
  by_cases e : i < a' ∨ b' ≤ j
  · exact h i j q1 q2 q3 e
  · rcases q4 with q4 | q4
    · exact W.ntr (h1 i (by omega) q4) (h3 j (by omega) (by omega))
    · omega
theorem Sw.all {a b : Nat} {l l' : List α} (s : Sw a b l l') {p : α → Prop} (h : ∀ k, a ≤ k → k < b → p (l.getD k default)) : ∀ k, a ≤ k → k < b → p (l'.getD k default) := fun k h1 h2 => by
  obtain ⟨m, m1, m2, m3⟩ := s.in_ h1 h2
  rw [m3]; exact h m m1 m2
end
end Go.Proofs.Xx

/-
  Merging by symmetric comparisons: two runs become one, rotations.
-/
namespace Go.Proofs.Xx
set_option linter.unusedVariables false
set_option linter.unusedSectionVars false

section
variable {α : Type} [Inhabited α]
/-- n elements from a on and from b on change places. -/
def xch (a b n k : Nat) : Nat := if a ≤ k ∧ k < a + n then k + (b - a) else if b ≤ k ∧ k < b + n then k - (b - a) else k
def IsXch (a b n : Nat) (l l' : List α) : Prop := ∀ k, l'.getD k default = l.getD (xch a b n k) default
theorem IsXch.zero {a b : Nat} {l : List α} : IsXch a b 0 l l := fun k => by
  unfold xch
  rw [if_neg (by omega), if_neg (by omega)]
theorem IsXch.next {a b i : Nat} {l l' : List α} (h : IsXch a b i l l') (hab : a + i < b) (hl : b + i < l'.length) : IsXch a b (i + 1) l (swp l' (a + i) (b + i)) := fun k => by
  rw [swp_get (by omega) hl]
  rw [h, h, h]
  unfold xch
  repeat' split
  all_goals first | omega | rfl | (congr 1 <;> omega)
/-- Two neighbouring parts change places. -/
def rot (a m b k : Nat) : Nat := if k < a then k else if k < a + (b - m) then k + (m - a) else if k < b then k - (b - m) else k
def IsRot (a m b : Nat) (l l' : List α) : Prop := ∀ k, l'.getD k default = l.getD (rot a m b k) default
/-- l, rotated, is c, rotated between i before m and j behind it. -/
def RotI (a m b i j : Nat) (l c : List α) : Prop := ∀ k, l.getD (rot a m b k) default = c.getD (rot (m - i) m (m + j) k) default
theorem RotI.start {a m b : Nat} {l : List α} (h1 : a ≤ m) (h2 : m ≤ b) : RotI a m b (m - a) (b - m) l l := fun k => by
  rw [show m - (m - a) = a by omega, show m + (b - m) = b by omega]
theorem RotI.left {a m b i j : Nat} {l c c' : List α} (h : RotI a m b i j l c) (hi : i ≤ m) (hij : j < i) (x : IsXch (m - i) m j c c') : RotI a m b (i - j) j l c' := fun k => by
  rw [h k, x]
  congr 1
  unfold xch rot
  repeat' split
  all_goals omega
theorem RotI.right {a m b i j : Nat} {l c c' : List α} (h : RotI a m b i j l c) (hi : i ≤ m) (hij : i < j) (x : IsXch (m - i) (m + j - i) i c c') : RotI a m b i (j - i) l c' := fun k => by
  rw [h k, x]
  congr 1
  unfold xch rot
  repeat' split
  all_goals omega
theorem RotI.done {a m b i : Nat} {l c c' : List α} (h : RotI a m b i i l c) (hi : i ≤ m) (x : IsXch (m - i) m i c c') : IsRot a m b l c' := fun k => by
  rw [h k, x]
  congr 1
  unfold xch rot
  repeat' split
  all_goals omega

/-- An element goes up from a to k. -/
def IsUp (a k : Nat) (l l' : List α) : Prop := ∀ x, l'.getD x default = l.getD (if x < a then x else if x < k then x + 1 else if x = k then a else x) default
theorem IsUp.start {a : Nat} {l : List α} : IsUp a a l l := fun x => by
  congr 1
  repeat' split
  all_goals omega
theorem IsUp.next {a k : Nat} {l l' : List α} (h : IsUp a k l l') (hak : a ≤ k) (hl : k + 1 < l'.length) : IsUp a (k + 1) l (swp l' k (k + 1)) := fun x => by
  rw [swp_get (by omega) hl]
  rw [h, h, h]
  repeat' split
  all_goals first | omega | rfl | (congr 1 <;> omega)
/-- An element goes down from m to k. -/
def IsDown (m k : Nat) (l l' : List α) : Prop := ∀ x, l'.getD x default = l.getD (if x < k then x else if x = k then m else if x ≤ m then x - 1 else x) default
theorem IsDown.start {m : Nat} {l : List α} : IsDown m m l l := fun x => by
  congr 1
  repeat' split
  all_goals omega
theorem IsDown.next {m k : Nat} {l l' : List α} (h : IsDown m k l l') (hk : 0 < k ∧ k ≤ m) (hl : m < l'.length) : IsDown m (k - 1) l (swp l' k (k - 1)) := fun x => by
  rw [swp_get (by omega) (by omega)]
  rw [h, h, h]
  repeat' split
  all_goals first | omega | rfl | (congr 1 <;> omega)
end

/-- By a key, and by number where the keys are the same. -/
def lexi (key : Int → Int) (x y : Int) : Prop := key x < key y ∨ (key x = key y ∧ x < y)
theorem lexi_ord (key : Int → Int) : WOrd (lexi key) where
  irr x h := by unfold lexi at h; omega
  tr h1 h2 := by unfold lexi at *; omega
  ntr h1 h2 := by unfold lexi at *; omega
/-- Two runs; what is in the first has the lesser numbers. -/
structure Mrg (key : Int → Int) (a m b : Nat) (l : List Int) : Prop where
  sl : Srt (lexi key) a m l
  sr : Srt (lexi key) m b l
  cr : ∀ p q, a ≤ p → p < m → m ≤ q → q < b → l.getD p default < l.getD q default

theorem Mrg.up {key : Int → Int} {a b i : Nat} {l l' : List Int} (h : Mrg key a (a + 1) b l) (hi : a + 1 ≤ i ∧ i ≤ b) (h1 : ∀ k, a + 1 ≤ k → k < i → lexi key (l.getD k default) (l.getD a default)) (h2 : ∀ k, i ≤ k → k < b → ¬ lexi key (l.getD k default) (l.getD a default)) (u : IsUp a (i - 1) l l') : Srt (lexi key) a b l' := by
  have W := lexi_ord key
  have u1 : ∀ x, a ≤ x → x < i - 1 → l'.getD x default = l.getD (x + 1) default := fun x q1 q2 => by rw [u x, if_neg (by omega), if_pos q2]
  have u2 : l'.getD (i - 1) default = l.getD a default := by
    rw [u, if_neg (by omega), if_neg (by omega), if_pos rfl]
  have u3 : ∀ x, i - 1 < x → l'.getD x default = l.getD x default := fun x q1 => by rw [u x, if_neg (by omega), if_neg (by omega), if_neg (by omega)]
  intro p q q1 q2 q3
  rcases Nat.lt_trichotomy p (i - 1) with e1 | e1 | e1
  · rw [u1 p q1 e1]
    rcases Nat.lt_trichotomy q (i - 1) with e2 | e2 | e2
    · rw [u1 q (by omega) e2]; exact h.sr _ _ (by omega) (by omega) (by omega)
    · rw [e2, u2]; exact W.asym (h1 _ (by omega) (by omega))
    · rw [u3 q e2]; exact h.sr _ _ (by omega) (by omega) (by omega)
  · rw [e1, u2, u3 q (by omega)]; exact h2 _ (by omega) q3
  · rw [u3 p e1, u3 q (by omega)]; exact h.sr _ _ (by omega) (by omega) (by omega)
theorem Mrg.down {key : Int → Int} {a m i : Nat} {l l' : List Int} (h : Mrg key a m (m + 1) l) (hi : a ≤ i ∧ i ≤ m) (h1 : ∀ k, a ≤ k → k < i → ¬ lexi key (l.getD m default) (l.getD k default)) (h2 : ∀ k, i ≤ k → k < m → lexi key (l.getD m default) (l.getD k default)) (u : IsDown m i l l') : Srt (lexi key) a (m + 1) l' := by
  have W := lexi_ord key
  have u1 : ∀ x, x < i → l'.getD x default = l.getD x default := fun x q1 => by rw [u x, if_pos q1]
  have u2 : l'.getD i default = l.getD m default := by
    rw [u, if_neg (by omega), if_pos rfl]
  have u3 : ∀ x, i < x → x ≤ m → l'.getD x default = l.getD (x - 1) default := fun x q1 q2 => by rw [u x, if_neg (by omega), if_neg (by omega), if_pos q2]
  intro p q q1 q2 q3
  rcases Nat.lt_trichotomy p i with e1 | e1 | e1
  · rw [u1 p e1]
    rcases Nat.lt_trichotomy q i with e2 | e2 | e2
    · rw [u1 q e2]; exact h.sl _ _ (by omega) (by omega) (by omega)
    · rw [e2, u2]; exact h1 _ (by omega) (by omega)
    · rw [u3 q e2 (by omega)]; exact h.sl _ _ (by omega) (by omega) (by omega)
  · rw [e1, u2, u3 q (by omega) (by omega)]; exact W.asym (h2 _ (by omega) (by omega))
  · rw [u3 p e1 (by omega), u3 q (by omega) (by omega)]; exact h.sl _ _ (by omega) (by omega) (by omega)

/-- The search: at s the low end, at r the high one. -/
structure SrI (key : Int → Int) (a m b mid s r : Nat) (l : List Int) : Prop where
  lo : (if m > mid then mid + m - b else a) ≤ s
  sr : s ≤ r
  hi : r ≤ (if m > mid then mid else m)
  low : (if m > mid then mid + m - b else a) < s → ¬ lexi key (l.getD (mid + m - s) default) (l.getD (s - 1) default)
  high : r < (if m > mid then mid else m) → lexi key (l.getD (mid + m - 1 - r) default) (l.getD r default)
theorem Mrg.search {key : Int → Int} {a m b mid s : Nat} {l l2 : List Int} (h : Mrg key a m b l) (hm : mid = (a + b) / 2) (hab : a < m ∧ m < b) (I : SrI key a m b mid s s l)
    (hr : IsRot s m (mid + m - s) l l2) : (a ≤ s ∧ s ≤ mid ∧ s ≤ m ∧ m ≤ mid + m - s ∧ mid + m - s ≤ b) ∧ Mrg key a s mid l2 ∧ Mrg key mid (mid + m - s) b l2 ∧ ∀ x y, a ≤ x → x < mid → mid ≤ y → y < b → ¬ lexi key (l2.getD y default) (l2.getD x default) := by
  have W := lexi_ord key
  have lo := I.lo
  have hi := I.hi
  have low := I.low
  have high := I.high
  have hs : a ≤ s ∧ s ≤ mid ∧ s ≤ m ∧ m ≤ mid + m - s ∧ mid + m - s ≤ b := by
    split at lo <;> split at hi <;> omega
  have r1 : ∀ k, k < s → l2.getD k default = l.getD k default := fun k hk => by rw [hr k]; unfold rot; rw [if_pos hk]
  have r2 : ∀ k, s ≤ k → k < mid → l2.getD k default = l.getD (k + (m - s)) default := fun k h1 h2 => by rw [hr k]; unfold rot; rw [if_neg (by omega), if_pos (by omega)]
  have r3 : ∀ k, mid ≤ k → k < mid + m - s → l2.getD k default = l.getD (k - (mid - s)) default := fun k h1 h2 => by
    rw [hr k]; unfold rot; rw [if_neg (by omega), if_neg (by omega), if_pos (by omega)]; congr 1; omega
  have r4 : ∀ k, mid + m - s ≤ k → l2.getD k default = l.getD k default := fun k h1 => by rw [hr k]; unfold rot; rw [if_neg (by omega), if_neg (by omega), if_neg (by omega)]
  refine ⟨hs, ⟨fun i j q1 q2 q3 => ?_, fun i j q1 q2 q3 => ?_, fun p q q1 q2 q3 q4 => ?_⟩, ⟨fun i j q1 q2 q3 => ?_, fun i j q1 q2 q3 => ?_, fun p q q1 q2 q3 q4 => ?_⟩, fun x y q1 q2 q3 q4 => ?_⟩
  · rw [r1 i (by omega), r1 j q3]; exact h.sl i j q1 q2 (by omega)
  · rw [r2 i q1 (by omega), r2 j (by omega) q3]; exact h.sr _ _ (by omega) (by omega) (by omega)
  · rw [r1 p q2, r2 q q3 q4]; exact h.cr _ _ q1 (by omega) (by omega) (by omega)
  · rw [r3 i q1 (by omega), r3 j (by omega) q3]; exact h.sl _ _ (by omega) (by omega) (by omega)
  · rw [r4 i q1, r4 j (by omega)]; exact h.sr _ _ (by omega) q2 q3
  · rw [r3 p q1 q2, r4 q q3]; exact h.cr _ _ (by omega) (by omega) (by omega) q4
  · -- what is behind the middle of the first run, or of the second one
    have le_of : ∀ {i j : Nat}, a ≤ i → i ≤ j → j < m → ¬ lexi key (l.getD j default) (l.getD i default) := fun {i j} g1 g2 g3 => by
      rcases Nat.lt_or_ge i j with q | q
      · exact h.sl i j g1 q g3
      · have : i = j := by omega
        subst this; exact W.irr _
    have le_of2 : ∀ {i j : Nat}, m ≤ i → i ≤ j → j < b → ¬ lexi key (l.getD j default) (l.getD i default) := fun {i j} g1 g2 g3 => by
      rcases Nat.lt_or_ge i j with q | q
      · exact h.sr i j g1 q g3
      · have : i = j := by omega
        subst this; exact W.irr _
    rcases Nat.lt_or_ge x s with e1 | e1
    · rw [r1 x e1]
      rcases Nat.lt_or_ge y (mid + m - s) with e2 | e2
      · rw [r3 y q3 e2]; exact le_of q1 (by omega) (by omega)
      · rw [r4 y e2]
        have g : ¬ lexi key (l.getD (mid + m - s) default) (l.getD (s - 1) default) := low (by split <;> omega)
        have g1 : ¬ lexi key (l.getD (s - 1) default) (l.getD x default) := le_of q1 (by omega) (by omega)
        have g2 : ¬ lexi key (l.getD y default) (l.getD (mid + m - s) default) := le_of2 (by omega) e2 q4
        exact W.ntr (W.ntr g1 g) g2
    · rw [r2 x e1 q2]
      rcases Nat.lt_or_ge y (mid + m - s) with e2 | e2
      · rw [r3 y q3 e2]
        have g : lexi key (l.getD (mid + m - 1 - s) default) (l.getD s default) := high (by split <;> omega)
        have g1 : ¬ lexi key (l.getD (y - (mid - s)) default) (l.getD s default) := le_of (by omega) (by omega) (by omega)
        have g2 : ¬ lexi key (l.getD (mid + m - 1 - s) default) (l.getD (x + (m - s)) default) := le_of2 (by omega) (by omega) (by omega)
        exact W.ntr (W.ntr g2 (W.asym g)) g1
      · rw [r4 y e2]; exact le_of2 (by omega) (by omega) q4
end Go.Proofs.Xx

/-
  Parting a range by an element.
-/
namespace Go.Proofs.Xx
set_option linter.unusedVariables false
section
variable {α : Type} [Inhabited α] {lt : α → α → Prop}
/-- Heaps do not see what is outside. -/
theorem Heap.pop {f i : Nat} {l : List α} (h : Heap lt f 0 (i + 1) l) (hl : f + i < l.length) : Heap lt f 1 i (swp l f (f + i)) := by
  intro k hk
  have g := swp_get (l := l) (i := f) (j := f + i) (by omega) (by omega)
  have hh := h k (Nat.zero_le _)
  refine ⟨fun q => ?_, fun q => ?_⟩
  · rw [g, g, if_neg (by omega), if_neg (by omega), if_neg (by omega), if_neg (by omega)]; exact hh.1 (by omega)
  · rw [g, g, if_neg (by omega), if_neg (by omega), if_neg (by omega), if_neg (by omega)]; exact hh.2 (by omega)
theorem HeapI.done {f n b : Nat} {l : List α} (h : HeapI lt f 0 n l) (hb : b = f + n) : Srt lt f b l := fun i j h1 h2 h3 => by
  have := h.2 (i - f) (j - f) (by omega) (Nat.zero_le _) (by omega)
  rwa [show f + (j - f) = j by omega, show f + (i - f) = i by omega] at this

/-- [a, b), x at its front, is being parted: before i less than x, behind j not less. -/
structure PartI (lt : α → α → Prop) (a b : Nat) (x : α) (i j : Nat) (m : List α) : Prop where
  bi : a < i ∧ i ≤ j + 1 ∧ j < b
  lo : ∀ k, a < k → k < i → lt (m.getD k default) x
  hi : ∀ k, j < k → k < b → ¬ lt (m.getD k default) x
  x : m.getD a default = x
theorem PartI.swap {a b : Nat} {x : α} {i j : Nat} {m : List α} (h : PartI lt a b x i j m) (hb : b ≤ m.length) (hij : i ≤ j) (h1 : ¬ lt (m.getD i default) x) (h2 : lt (m.getD j default) x) : i < j ∧ PartI lt a b x (i + 1) (j - 1) (swp m i j) := by
  have hbi := h.bi
  have hne : i ≠ j := fun q => by subst q; exact h1 h2
  have g := swp_get (l := m) (i := i) (j := j) (by omega) (by omega)
  refine ⟨by omega, ⟨by omega, fun k q1 q2 => ?_, fun k q1 q2 => ?_, ?_⟩⟩
  · rw [g, if_neg (by omega)]
    split
    · exact h2
    · exact h.lo k q1 (by omega)
  · rw [g]
    split
    · exact h1
    · rw [if_neg (by omega)]; exact h.hi k (by omega) q2
  · rw [g, if_neg (by omega), if_neg (by omega)]; exact h.x
theorem PartI.done (W : WOrd lt) {a b : Nat} {x : α} {i j : Nat} {m : List α} (h : PartI lt a b x i j m) (hb : b ≤ m.length) (hij : j < i) : Parted lt a b j (swp m j a) := by
  have hbi := h.bi
  have g := swp_get (l := m) (i := j) (j := a) (by omega) (by omega)
  have gj : (swp m j a).getD j default = x := by
    rw [g]
    split
    · rename_i e; rw [e]; exact h.x
    · rw [if_pos rfl]; exact h.x
  refine ⟨fun k q1 q2 => ?_, fun k q1 q2 => ?_⟩
  · rw [gj, g]
    split
    · exact h.lo j (by omega) (by omega)
    · rw [if_neg (by omega)]; exact h.lo k (by omega) (by omega)
  · rw [gj, g, if_neg (by omega), if_neg (by omega)]; exact h.hi k q1 q2
/-- [a, b), x at its front, is being parted: before i not greater than x, behind j greater. -/
structure EqI (lt : α → α → Prop) (a b : Nat) (x : α) (i j : Nat) (m : List α) : Prop where
  bi : a < i ∧ i ≤ j + 1 ∧ j < b
  lo : ∀ k, a < k → k < i → ¬ lt x (m.getD k default)
  hi : ∀ k, j < k → k < b → lt x (m.getD k default)
  x : m.getD a default = x
theorem EqI.swap {a b : Nat} {x : α} {i j : Nat} {m : List α} (h : EqI lt a b x i j m) (hb : b ≤ m.length) (hij : i ≤ j) (h1 : lt x (m.getD i default)) (h2 : ¬ lt x (m.getD j default)) : i < j ∧ EqI lt a b x (i + 1) (j - 1) (swp m i j) := by
  have hbi := h.bi
  have hne : i ≠ j := fun q => by subst q; exact h2 h1
  have g := swp_get (l := m) (i := i) (j := j) (by omega) (by omega)
  refine ⟨by omega, ⟨by omega, fun k q1 q2 => ?_, fun k q1 q2 => ?_, ?_⟩⟩
  · rw [g, if_neg (by omega)]
    split
    · exact h2
    · exact h.lo k q1 (by omega)
  · rw [g]
    split
    · exact h1
    · rw [if_neg (by omega)]; exact h.hi k (by omega) q2
  · rw [g, if_neg (by omega), if_neg (by omega)]; exact h.x
/-- A step of quicksort's loop, all elements before a' and behind b' in order. -/
theorem DoneI.low {a b a' b' : Nat} {l : List α} (h : DoneI lt a b a' b' l) (h1 : a < a') (h2 : b' ≤ b) : ∀ k, a' ≤ k → k < b' → ¬ lt (l.getD k default) (l.getD (a' - 1) default) := fun k q1 q2 => h (a' - 1) k (by omega) (by omega) (by omega) (.inl (by omega))
end
end Go.Proofs.Xx
