/-
  Rolls that are right; Load.
-/
import Derived.Test.YticddjokabmfmaaGreatDoorM8
import Derived.Test.YticddjokabmfmaaGreatDoorM7

namespace Go.Proofs.Xx
open Go Go.Proofs
set_option linter.unusedSimpArgs false
set_option linter.unusedVariables false
set_option linter.unusedSectionVars false
set_option maxRecDepth 100000

/-- v is a roll that reads as r. -/
structure RlV where
  vg : SlV
  vt : SlV
  gs : List Gst
def RlV.val (v : RlV) : Value := .agg #[v.vg.val, v.vt.val]
structure RlOk (h : AH) (v : RlV) (r : Rl) : Prop where
  rg : RdL h v.vg.val 9 eG v.gs
  rt : RdL h v.vt.val 3 eTi r.ts
  tg : ∀ i, i < v.gs.length → RdL h (v.gs.getD i default).tv.val 1 eS (v.gs.getD i default).tg ∧ (v.gs.getD i default).tg.length ≤ 9223372036854775807
  us : v.gs.map (·.toGu) = r.us
  lg : r.us.length ≤ 9223372036854775807
  lt : r.ts.length ≤ 9223372036854775807
theorem RlOk.ext {h h' : AH} {v : RlV} {r : Rl} (a : RlOk h v r) (w : WfH h) (x : Ext h h') : RlOk h' v r := ⟨a.rg.ext w x, a.rt.ext w x, fun i hi => ⟨(a.tg i hi).1.ext w x, (a.tg i hi).2⟩, a.us, a.lg, a.lt⟩
theorem RlOk.len {h : AH} {v : RlV} {r : Rl} (a : RlOk h v r) : v.gs.length = r.us.length := by rw [← a.us]; simp
theorem map_getD {α β : Type} [Inhabited α] [Inhabited β] {f : α → β} {l : List α} {i : Nat} (hi : i < l.length) : (l.map f).getD i default = f (l.getD i default) := by
  rw [List.getD_eq_getElem?_getD, List.getD_eq_getElem?_getD, List.getElem?_map, List.getElem?_eq_getElem hi]; rfl
theorem RlOk.at_ {h : AH} {v : RlV} {r : Rl} (a : RlOk h v r) {i : Nat} (hi : i < v.gs.length) : (v.gs.getD i default).toGu = r.us.getD i default := by rw [← a.us, map_getD hi]
/-- What is wrong with the i-th guest, behind those ahead of it. -/
noncomputable def gE0 (us : List Gu) (i : Nat) : Int := (addF ⟨us.take i, []⟩ (us.getD i default)).2
open Classical in
/-- What is wrong with the i-th tie. -/
noncomputable def tE0 (r : Rl) (i : Nat) : Int :=
  if sLt (r.ts.getD i default).a (r.ts.getD i default).b ∧ (i = 0 ∨ ¬ bef (r.ts.getD i default) (r.ts.getD (i - 1) default)) then (tieF ⟨r.us, r.ts.take i⟩ (r.ts.getD i default).a (r.ts.getD i default).b (r.ts.getD i default).k).2 else 23
/-- A right roll. -/
def VRl (r : Rl) : Prop := (∀ i, i < r.us.length → gE0 r.us i = 0) ∧ ∀ i, i < r.ts.length → tE0 r i = 0
/-- The first thing that is wrong in a roll. -/
def Bad (r : Rl) (i e : Int) : Prop := e ≠ 0 ∧ ((∃ j : Nat, j < r.us.length ∧ (∀ k, k < j → gE0 r.us k = 0) ∧ gE0 r.us j = e ∧ i = j) ∨ ((∀ k, k < r.us.length → gE0 r.us k = 0) ∧ ∃ j : Nat, j < r.ts.length ∧ (∀ k, k < j → tE0 r k = 0) ∧ tE0 r j = e ∧ i = r.us.length + j))
theorem first_uniq {p : Nat → Int} {j k : Nat} (h1 : ∀ i, i < j → p i = 0) (h2 : p j ≠ 0) (h3 : ∀ i, i < k → p i = 0) (h4 : p k ≠ 0) : j = k := by
  rcases Nat.lt_trichotomy j k with q | q | q
  · exact absurd (h3 j q) h2
  · exact q
  · exact absurd (h1 k q) h4
theorem Bad.uniq {r : Rl} {i e i' e' : Int} (a : Bad r i e) (b : Bad r i' e') : i = i' ∧ e = e' := by
  obtain ⟨h1, a⟩ := a
  obtain ⟨h2, b⟩ := b
  rcases a with ⟨j, a1, a2, a3, a4⟩ | ⟨a0, j, a1, a2, a3, a4⟩ <;> rcases b with ⟨k, b1, b2, b3, b4⟩ | ⟨b0, k, b1, b2, b3, b4⟩
  · obtain rfl := first_uniq a2 (a3 ▸ h1) b2 (b3 ▸ h2)
    exact ⟨a4.trans b4.symm, a3.symm.trans b3⟩
  · exact absurd (b0 j a1) (a3 ▸ h1)
  · exact absurd (a0 k b1) (b3 ▸ h2)
  · obtain rfl := first_uniq a2 (a3 ▸ h1) b2 (b3 ▸ h2)
    exact ⟨a4.trans b4.symm, a3.symm.trans b3⟩
theorem Bad.not {r : Rl} {i e : Int} (a : Bad r i e) : ¬ VRl r := fun v => by
  obtain ⟨h1, ⟨j, a1, a2, a3, a4⟩ | ⟨a0, j, a1, a2, a3, a4⟩⟩ := a
  · exact h1 (a3 ▸ v.1 j a1)
  · exact h1 (a3 ▸ v.2 j a1)
theorem addF_zero {r : Rl} {g : Gu} (h : (addF r g).2 = 0) : chkG g = 0 ∧ gat r.us g.name = none ∧ r.us.length < 64 ∧ (addF r g).1 = ⟨r.us ++ [g], r.ts⟩ := by
  by_cases h1 : chkG g = 0
  · by_cases h2 : gat r.us g.name = none
    · by_cases h3 : 64 ≤ r.us.length
      · rw [addF_7 h1 h2 h3] at h; cases h
      · rw [addF_0 h1 h2 h3]; exact ⟨h1, h2, by omega, rfl⟩
    · rw [addF_5 h1 h2] at h; cases h
  · rw [addF_e h1] at h; exact absurd h h1
theorem tieF_zero {r : Rl} {a b : List UInt8} {k : Int} (h : (tieF r a b k).2 = 0) : (k = 1 ∨ k = 2) ∧ a ≠ b ∧ gat r.us a ≠ none ∧ gat r.us b ≠ none ∧ ¬ tied r.ts a b ∧ r.ts.length < 256 ∧ (tieF r a b k).1 = ⟨r.us, putT r.ts (tiOf a b k)⟩ := by
  by_cases h1 : (k ≠ 1 ∧ k ≠ 2) ∨ a = b
  · rw [tieF_23 h1] at h; cases h
  · by_cases h2 : gat r.us a = none ∨ gat r.us b = none
    · rw [tieF_6 h1 h2] at h; cases h
    · by_cases h3 : tied r.ts a b
      · rw [tieF_5 h1 h2 h3] at h; cases h
      · by_cases h4 : 256 ≤ r.ts.length
        · rw [tieF_7 h1 h2 h3 h4] at h; cases h
        · rw [tieF_0 h1 h2 h3 h4]
          exact ⟨by omega, fun q => h1 (.inr q), fun q => h2 (.inl q), fun q => h2 (.inr q), h3, by omega, rfl⟩
theorem take_succ_getD {α : Type} [Inhabited α] {l : List α} {i : Nat} (hi : i < l.length) : l.take (i + 1) = l.take i ++ [l.getD i default] := by
  rw [List.take_add_one, List.getD_eq_getElem?_getD, List.getElem?_eq_getElem hi]; rfl
theorem gE0_len {us : List Gu} {i : Nat} (hi : i ≤ us.length) (h : ∀ k, k < i → gE0 us k = 0) : i ≤ 64 := by
  cases i with
  | zero => omega
  | succ i =>
    have := (addF_zero (h i (Nat.lt_succ_self i))).2.2.1
    simp at this; omega
theorem getD_take {α : Type} [Inhabited α] {l : List α} {i j : Nat} (h : j < i) : (l.take i).getD j default = l.getD j default := by
  rw [List.getD_eq_getElem?_getD, List.getD_eq_getElem?_getD, List.getElem?_take, if_pos h]
theorem TS.mk_ {ts : List Ti} (h : ∀ i j, i < j → j < ts.length → bef (ts.getD i default) (ts.getD j default)) : TS ts := by
  rw [TS, List.pairwise_iff_getElem]
  intro i j hi hj hij
  have := h i j hij hj
  rw [List.getD_eq_getElem?_getD, List.getD_eq_getElem?_getD, List.getElem?_eq_getElem hj, List.getElem?_eq_getElem hi] at this
  exact this
theorem TS.app {ts : List Ti} {t : Ti} (h : TS ts) (h2 : ∀ j, j < ts.length → bef (ts.getD j default) t) : TS (ts ++ [t]) := TS.mk_ fun i j hij hj => by
  simp at hj
  rw [gA1 (show i < ts.length by omega)]
  rcases Nat.lt_or_ge j ts.length with q | q
  · rw [gA1 q]; exact h.lt hij q
  · obtain rfl : j = ts.length := by omega
    rw [gA2 (Nat.le_refl _), Nat.sub_self]; exact h2 i (by omega)
theorem tE0_zero {r : Rl} {i : Nat} (h : tE0 r i = 0) : sLt (r.ts.getD i default).a (r.ts.getD i default).b ∧ (i = 0 ∨ ¬ bef (r.ts.getD i default) (r.ts.getD (i - 1) default)) ∧ (tieF ⟨r.us, r.ts.take i⟩ (r.ts.getD i default).a (r.ts.getD i default).b (r.ts.getD i default).k).2 = 0 := by
  unfold tE0 at h
  split at h
  · rename_i q; exact ⟨q.1, q.2, h⟩
  · cases h
theorem sMin_lt {a b : List UInt8} (h : sLt a b) : sMin a b = a := by unfold sMin; rw [if_neg (sLt_asymm h)]
theorem sMax_lt {a b : List UInt8} (h : sLt a b) : sMax a b = b := by unfold sMax; rw [if_pos h]
theorem tE0_ts {r : Rl} : ∀ {i : Nat}, i ≤ r.ts.length → (∀ k, k < i → tE0 r k = 0) → TS (r.ts.take i) ∧ (i < r.ts.length → tE0 r i = 0 → ∀ j, j < i → bef (r.ts.getD j default) (r.ts.getD i default))
  | i, hi, h => by
    have key : ∀ i, i ≤ r.ts.length → (∀ k, k < i → tE0 r k = 0) → TS (r.ts.take i) → i < r.ts.length → tE0 r i = 0 → ∀ j, j < i → bef (r.ts.getD j default) (r.ts.getD i default) := by
      intro i hi h hs hl h0 j hj
      obtain ⟨z1, z2, z3⟩ := tE0_zero h0
      have z4 := (tieF_zero z3).2.2.2.2.1
      have hp : bef (r.ts.getD (i - 1) default) (r.ts.getD i default) := by
        rcases bef_tri (r.ts.getD (i - 1) default) (r.ts.getD i default) with q | ⟨e1, e2⟩ | q
        · exact q
        · refine absurd ⟨r.ts.getD (i - 1) default, ?_, ?_⟩ z4
          · rw [← getD_take (show i - 1 < i by omega)]
            have hl2 : i - 1 < (r.ts.take i).length := by simp; omega
            rw [List.getD_eq_getElem?_getD, List.getElem?_eq_getElem hl2]
            exact List.getElem_mem hl2
          · rw [sMin_lt z1, sMax_lt z1]; exact ⟨e1, e2⟩
        · rcases z2 with z2 | z2
          · omega
          · exact absurd q z2
      rcases Nat.lt_or_ge j (i - 1) with q | q
      · have hl2 : i - 1 < (r.ts.take i).length := by simp; omega
        have := hs.lt q hl2
        rw [getD_take (by omega), getD_take (by omega)] at this
        exact bef_trans this hp
      · obtain rfl : j = i - 1 := by omega
        exact hp
    have all : ∀ i, i ≤ r.ts.length → (∀ k, k < i → tE0 r k = 0) → TS (r.ts.take i) := by
      intro i
      induction i with
      | zero => intro _ _; simp [TS]
      | succ i ih =>
        intro hi h
        have hs := ih (by omega) fun k hk => h k (by omega)
        rw [take_succ_getD (by omega)]
        refine hs.app fun j hj => ?_
        simp at hj
        rw [getD_take (by omega)]
        exact key i (by omega) (fun k hk => h k (by omega)) hs (by omega) (h i (by omega)) j (by omega)
    exact ⟨all i hi h, key i hi h (all i hi h)⟩
theorem tE0_len {r : Rl} {i : Nat} (hi : i ≤ r.ts.length) (h : ∀ k, k < i → tE0 r k = 0) : i ≤ 256 := by
  cases i with
  | zero => omega
  | succ i =>
    have := (tieF_zero (tE0_zero (h i (Nat.lt_succ_self i))).2.2).2.2.2.2.2.1
    simp at this; omega
theorem tE0_put {r : Rl} {i : Nat} (hi : i < r.ts.length) (h : ∀ k, k < i → tE0 r k = 0) (h0 : tE0 r i = 0) : (tieF ⟨r.us, r.ts.take i⟩ (r.ts.getD i default).a (r.ts.getD i default).b (r.ts.getD i default).k).1 = ⟨r.us, r.ts.take (i + 1)⟩ := by
  obtain ⟨z1, z2, z3⟩ := tE0_zero h0
  rw [(tieF_zero z3).2.2.2.2.2.2]
  have e : tiOf (r.ts.getD i default).a (r.ts.getD i default).b (r.ts.getD i default).k = r.ts.getD i default := by unfold tiOf; rw [sMin_lt z1, sMax_lt z1]
  have hl : (r.ts.take i).length = i := by simp; omega
  show (⟨r.us, putT (r.ts.take i) _⟩ : Rl) = _
  rw [e, putT_plc (i := i) ⟨by omega, fun j hj => by rw [getD_take hj]; exact (tE0_ts (by omega) h).2 hi h0 j hj, fun j h1 h2 => by omega⟩, take_succ_getD hi]
  simp [List.take_take]
theorem cmp_le {c : Int} {x t : Ti} (e1 : c < 0 ↔ bef x t) (e2 : c = 0 ↔ x.a = t.a ∧ x.b = t.b) : c ≤ 0 ↔ ¬ bef t x := by
  constructor
  · intro z q
    rcases Int.lt_or_eq_of_le z with z | z
    · exact bef_irr _ (bef_trans (e1.1 z) q)
    · have := e2.1 z
      rcases q with q | q
      · rw [this.1] at q; exact sLt_irr _ q
      · rw [this.2] at q; exact sLt_irr _ q.2
  · intro z
    rcases bef_tri x t with q | q | q
    · have := e1.2 q; omega
    · have := e2.2 q; omega
    · exact absurd q z
variable [Flag]
theorem load_ok {h0 : AH} (w : WfH h0) (v : RlV) (r : Rl) (H : RlOk h0 v r) :
    Fn Tryz.prog Xh 136 [v.val] h0 (fun u h' => (∃ p, u = .tuple #[.pointer (some ⟨p, 0, none⟩), .int .i64 0, .int .i64 0] ∧ VRl r ∧ Hs h0 h' [bookR p r]) ∨ (∃ i e, u = .tuple #[.pointer none, .int .i64 i, .int .i64 e] ∧ Bad r i e ∧ Hs h0 h' [])) := by
  have S := Hs.start w
  have hgl := H.len
  have hrg := H.rg
  have hrt := H.rt
  have hlg := H.lg
  have hlt := H.lt
  unfold RlV.val
  refine Fn_K (by first | rfl | exact KX.no _ _ _ (by decide) rfl) Tryz.func136 rfl rfl ?_
  all_goals (repeat' (first | refine K_seq ?_ | refine k_cond rfl ?_ | refine K_skip ?_ | refine K_exit ?_ | refine k_block ?_ | refine K_scope ?_ | refine K_label ?_ | (refine K_region (id := 0) ?_; (refine bx S ?_; clear S; intro b h S); refine mv ?_; refine mv ?_; refine mv ?_; refine KO_nil ?_) | (refine K_region (id := 1) ?_; skip)))
  (refine KO_fn rfl rfl rfl rfl rfl ((new_ok S.wf).mono ?_); rintro _ h ⟨p, rfl, x⟩) <;> (replace S := S.join1 x; clear x; refine mv ?_; refine KO_nil ?_)
  all_goals (repeat' (first | refine K_seq ?_ | refine k_cond rfl ?_ | refine K_skip ?_ | refine K_exit ?_ | refine k_block ?_ | refine K_scope ?_ | refine K_label ?_ | (refine K_region (id := 2) ?_; (first | refine vl ?_ | refine fB S ?_ | refine fS S rfl rfl ?_ | refine fA ?_); (first | refine lB S rfl rfl ?_ | refine lES2 S rfl rfl ?_ | refine lEB S ?_ | refine lH S ?_); (first | refine lnB S ?_ | refine lnS S rfl rfl ?_); refine mv ?_; refine KO_nil ?_)))
  obtain ⟨q, hnm⟩ : ∃ x, x = b := ⟨_, rfl⟩; subst hnm
  replace S : Hs h0 h [bookR p ⟨[], []⟩, .blk q [v.vg.val, v.vt.val] 104] := S
  refine k_loop (σ := Nat) (fun i h' => Hs h0 h' [bookR p ⟨r.us.take i, []⟩, .blk q [v.vg.val, v.vt.val] 104] ∧ i ≤ r.us.length ∧ ∀ k, k < i → gE0 r.us k = 0) (fun i => r.us.length - i) (fun i => [(1, .pointer (some ⟨q, 0, none⟩)), (5, .pointer (some ⟨p, 0, none⟩)), (14, v.vg.val), (15, .int .i64 v.gs.length), (16, .int .i64 i)]) 0 (by repeat (first | exact Ks.le_nil _ | refine Ks.le_cons rfl ?_ | refine Ks.le_int ?_)) ?_ ?_
  · exact ⟨S, Nat.zero_le _, fun j hj => absurd hj (Nat.not_lt_zero _)⟩
  clear S
  rintro i h ⟨S, g1, g2⟩
  have hi64 := gE0_len g1 g2
  all_goals (repeat' (first | refine K_seq ?_ | refine k_cond rfl ?_ | refine K_skip ?_ | refine K_exit ?_ | refine k_block ?_ | refine K_scope ?_ | refine K_label ?_ | (refine K_region (id := 3) ?_; (first | refine cT ?_ | refine cF ?_ | (refine cS ?_ ?_ <;> intro hc)) <;> (refine KO_nil ?_)) | (refine K_region (id := 4) ?_; refine mv ?_; (first | refine ixB S ?_ | refine ixS2 S rfl rfl ?_); (first | refine lB S rfl rfl ?_ | refine lES2 S rfl rfl ?_ | refine lEB S ?_ | refine lH S ?_); (refine al S ?_; clear S; intro b h S); refine mv ?_; (first | (refine sB S rfl rfl ?_; clear S; intro h S) | (refine sE2 S rfl rfl ?_; clear S; intro h S)); refine KO_nil ?_) | (refine K_region (id := 5) ?_; refine mv ?_; (first | refine lB S rfl rfl ?_ | refine lES2 S rfl rfl ?_ | refine lEB S ?_ | refine lH S ?_)) | (refine K_region (id := 9) ?_; (first | refine vl ?_ | refine fB S ?_ | refine fS S rfl rfl ?_ | refine fA ?_); (first | refine lB S rfl rfl ?_ | refine lES2 S rfl rfl ?_ | refine lEB S ?_ | refine lH S ?_); (first | refine lnB S ?_ | refine lnS S rfl rfl ?_); refine mv ?_; refine KO_nil ?_)))
  · have hil : i < v.gs.length := by omega
    have hat := H.at_ hil
    simp only [Int.toNat_natCast] at S
    simp only [Int.toNat_natCast]
    have htl : (r.us.take i).length ≤ 64 := by simp; omega
    (refine KO_fn rfl rfl rfl rfl rfl ((add_ok (S.front (.there .here)) (v.gs.getD i default) (RdS.base w (H.tg i hil).1) (H.tg i hil).2 htl).mono ?_); rintro _ h ⟨rfl, S⟩) <;> (refine mv ?_; refine KO_nil ?_)
    rw [hat] at S
    simp only [hat]
    all_goals (repeat' (first | refine K_seq ?_ | refine k_cond rfl ?_ | refine K_skip ?_ | refine K_exit ?_ | refine k_block ?_ | refine K_scope ?_ | refine K_label ?_ | (refine K_region (id := 6) ?_; refine mv ?_; (first | refine cT ?_ | refine cF ?_ | (refine cS ?_ ?_ <;> intro hc)) <;> (refine KO_nil ?_)) | (refine K_region (id := 7) ?_; refine mv ?_; refine mv ?_; refine mv ?_; refine mv ?_; refine mv ?_; refine KO_nil ?_) | (refine K_region (id := 8) ?_; (first | refine ad ?_ | refine vl ?_); refine mv ?_; refine KO_nil ?_)))
    · refine K_ret ⟨_, rfl, ?_⟩
      exact .inr ⟨i, _, rfl, ⟨hc, .inl ⟨i, by omega, g2, rfl, rfl⟩⟩, S.drop⟩
    · have hz : gE0 r.us i = 0 := Classical.not_not.1 hc
      rw [(addF_zero hz).2.2.2] at S
      refine ⟨i + 1, ?_, ?_, (by repeat (first | exact Ks.le_nil _ | refine Ks.le_cons rfl ?_ | refine Ks.le_int ?_))⟩
      · show r.us.length - (i + 1) < r.us.length - i; omega
      · refine ⟨?_, by omega, nxtD g2 hz⟩
        rw [take_succ_getD (by omega)]
        exact S.pick
  · obtain rfl : i = r.us.length := by omega
    rw [List.take_length] at S
    refine k_loop (σ := Nat) (fun i h' => Hs h0 h' [bookR p ⟨r.us, r.ts.take i⟩, .blk q [v.vg.val, v.vt.val] 104] ∧ i ≤ r.ts.length ∧ ∀ k, k < i → tE0 r k = 0) (fun i => r.ts.length - i) (fun i => [(1, .pointer (some ⟨q, 0, none⟩)), (5, .pointer (some ⟨p, 0, none⟩)), (30, v.vt.val), (31, .int .i64 r.ts.length), (32, .int .i64 i)]) 0 (by repeat (first | exact Ks.le_nil _ | refine Ks.le_cons rfl ?_ | refine Ks.le_int ?_)) ?_ ?_
    · exact ⟨S, Nat.zero_le _, fun j hj => absurd hj (Nat.not_lt_zero _)⟩
    clear S
    rintro i h ⟨S, k1, k2⟩
    have hi256 := tE0_len k1 k2
    have hTS := (tE0_ts k1 k2).1
    have htl : (r.ts.take i).length ≤ 256 := by simp; omega
    all_goals (repeat' (first | refine K_seq ?_ | refine k_cond rfl ?_ | refine K_skip ?_ | refine K_exit ?_ | refine k_block ?_ | refine K_scope ?_ | refine K_label ?_ | (refine K_region (id := 10) ?_; (first | refine cT ?_ | refine cF ?_ | (refine cS ?_ ?_ <;> intro hc)) <;> (refine KO_nil ?_)) | (refine K_region (id := 11) ?_; refine mv ?_; (first | refine ixB S ?_ | refine ixS2 S rfl rfl ?_); (first | refine lB S rfl rfl ?_ | refine lES2 S rfl rfl ?_ | refine lEB S ?_ | refine lH S ?_); (refine al S ?_; clear S; intro b h S); refine mv ?_; (first | (refine sB S rfl rfl ?_; clear S; intro h S) | (refine sE2 S rfl rfl ?_; clear S; intro h S)); refine KO_nil ?_) | (refine K_region (id := 12) ?_; refine mv ?_; refine KO_nil ?_) | (refine K_region (id := 18) ?_; refine mv ?_; refine mv ?_; refine mv ?_; refine mv ?_; refine KO_nil ?_)))
    · obtain ⟨t, ht⟩ : ∃ t, t = r.ts.getD i default := ⟨_, rfl⟩
      simp only [Int.toNat_natCast] at S
      simp only [Int.toNat_natCast]
      replace S : Hs h0 h [.blk b (eTi t) 152, bookR p ⟨r.us, r.ts.take i⟩, .blk q [v.vg.val, v.vt.val] 104] := by rw [ht]; exact S
      (repeat (refine K_seq ?_)); first | refine K_joinR (σ := Rl) (fun r' h' => Hs h0 h' [bookR p r', .blk q [v.vg.val, v.vt.val] 104] ∧ (tE0 r i = 0 → r' = ⟨r.us, r.ts.take (i + 1)⟩)) (fun r' => [(1, .pointer (some ⟨q, 0, none⟩)), (5, .pointer (some ⟨p, 0, none⟩)), (9, .int .i64 i), (11, .int .i64 (tE0 r i)), (30, v.vt.val), (31, .int .i64 r.ts.length), (32, .int .i64 i)]) ?_ ?_ | refine K_join (σ := Rl) (fun r' h' => Hs h0 h' [bookR p r', .blk q [v.vg.val, v.vt.val] 104] ∧ (tE0 r i = 0 → r' = ⟨r.us, r.ts.take (i + 1)⟩)) (fun r' => [(1, .pointer (some ⟨q, 0, none⟩)), (5, .pointer (some ⟨p, 0, none⟩)), (9, .int .i64 i), (11, .int .i64 (tE0 r i)), (30, v.vt.val), (31, .int .i64 r.ts.length), (32, .int .i64 i)]) ?_ ?_
      · have he1 : sLt t.a t.b → (i = 0 ∨ ¬ bef t (r.ts.getD (i - 1) default)) → tE0 r i = (tieF ⟨r.us, r.ts.take i⟩ t.a t.b t.k).2 := fun z1 z2 => by rw [ht] at z1 z2 ⊢; unfold tE0; rw [if_pos ⟨z1, z2⟩]
        have he2 : ¬ (sLt t.a t.b ∧ (i = 0 ∨ ¬ bef t (r.ts.getD (i - 1) default))) → tE0 r i = 23 := fun z => by rw [ht] at z; unfold tE0; rw [if_neg z]
        have he3 : tE0 r i = 0 → (tieF ⟨r.us, r.ts.take i⟩ t.a t.b t.k).1 = ⟨r.us, r.ts.take (i + 1)⟩ := fun z => by rw [ht]; exact tE0_put (by omega) k2 z
        all_goals (repeat' (first | refine K_seq ?_ | refine k_cond rfl ?_ | refine K_skip ?_ | refine K_exit ?_ | refine k_block ?_ | refine K_scope ?_ | refine K_label ?_ | (refine K_draw (id := 13) ?_; (first | refine vl ?_ | refine fB S ?_ | refine fS S rfl rfl ?_ | refine fA ?_); (first | refine lB S rfl rfl ?_ | refine lES2 S rfl rfl ?_ | refine lEB S ?_ | refine lH S ?_); (first | refine vl ?_ | refine fB S ?_ | refine fS S rfl rfl ?_ | refine fA ?_); (first | refine lB S rfl rfl ?_ | refine lES2 S rfl rfl ?_ | refine lEB S ?_ | refine lH S ?_); (refine tO ?_ ?_ <;> intro hc) <;> (refine mv ?_; (first | refine off ?_ | refine mv ?_); (first | refine off ?_ | (first | refine cT ?_ | refine cF ?_ | (refine cS ?_ ?_ <;> intro hc))) <;> ((first | refine off ?_ | refine mv ?_); (first | refine off ?_ | (first | refine vl ?_ | refine fB S ?_ | refine fS S rfl rfl ?_ | refine fA ?_)); (first | refine off ?_ | (first | refine lB S rfl rfl ?_ | refine lES2 S rfl rfl ?_ | refine lEB S ?_ | refine lH S ?_)); (first | refine off ?_ | refine mv ?_); (first | refine off ?_ | (first | refine sb ?_ | refine vl ?_)); (first | refine off ?_ | (first | refine ixB S ?_ | refine ixS2 S rfl rfl ?_)); (first | refine off ?_ | (first | refine lB S rfl rfl ?_ | refine lES2 S rfl rfl ?_ | refine lEB S ?_ | refine lH S ?_)); (first | refine off ?_ | (first | refine lB S rfl rfl ?_ | refine lES2 S rfl rfl ?_ | refine lEB S ?_ | refine lH S ?_)); (first | (refine off ?_; (first | refine off ?_ | (first | refine cT ?_ | refine cF ?_ | (refine cS ?_ ?_ <;> intro hc))) <;> ((first | refine off ?_ | refine vl ?_); refine vl ?_; refine KO_nil ?_)) | skip))))))
        · all_goals (repeat' (first | refine K_seq ?_ | refine k_cond rfl ?_ | refine K_skip ?_ | refine K_exit ?_ | refine k_block ?_ | refine K_scope ?_ | refine K_label ?_ | (refine K_region (id := 14) ?_; refine mv ?_; (first | refine vl ?_ | refine fB S ?_ | refine fS S rfl rfl ?_ | refine fA ?_); (first | refine lB S rfl rfl ?_ | refine lES2 S rfl rfl ?_ | refine lEB S ?_ | refine lH S ?_); (first | refine vl ?_ | refine fB S ?_ | refine fS S rfl rfl ?_ | refine fA ?_); (first | refine lB S rfl rfl ?_ | refine lES2 S rfl rfl ?_ | refine lEB S ?_ | refine lH S ?_); (first | refine vl ?_ | refine fB S ?_ | refine fS S rfl rfl ?_ | refine fA ?_); (first | refine lB S rfl rfl ?_ | refine lES2 S rfl rfl ?_ | refine lEB S ?_ | refine lH S ?_))))
          (refine KO_fn rfl rfl rfl rfl rfl ((tie_ok (S.front (.there .here)) t.a t.b t.k htl hTS).mono ?_); rintro _ h ⟨rfl, S⟩) <;> (refine mv ?_; refine KO_nil ?_)
          have he := he1 (by assumption) (.inl (by omega))
          refine ⟨_, ⟨S.pick, he3⟩, ?_⟩
          rw [he]
          exact (by repeat (first | exact Ks.le_nil _ | refine Ks.le_cons rfl ?_ | refine Ks.le_int ?_))
        · (refine KO_fn rfl rfl rfl rfl rfl ((order_ok S.wf (r.ts.getD ((i : Int) - 1).toNat default) t).mono ?_); rintro _ h ⟨⟨c, rfl, e1, e2⟩, x⟩) <;> (replace S := S.join0 x; clear x; (first | refine off ?_ | (first | refine cT ?_ | refine cF ?_ | (refine cS ?_ ?_ <;> intro hc))) <;> ((first | refine off ?_ | refine vl ?_); refine vl ?_; refine KO_nil ?_))
          all_goals rw [show ((i : Int) - 1).toNat = i - 1 by omega] at e1 e2
          all_goals have ec := cmp_le e1 e2
          all_goals (repeat' (first | refine K_seq ?_ | refine k_cond rfl ?_ | refine K_skip ?_ | refine K_exit ?_ | refine k_block ?_ | refine K_scope ?_ | refine K_label ?_ | (refine K_draw (id := 13) ?_; (first | refine vl ?_ | refine fB S ?_ | refine fS S rfl rfl ?_ | refine fA ?_); (first | refine lB S rfl rfl ?_ | refine lES2 S rfl rfl ?_ | refine lEB S ?_ | refine lH S ?_); (first | refine vl ?_ | refine fB S ?_ | refine fS S rfl rfl ?_ | refine fA ?_); (first | refine lB S rfl rfl ?_ | refine lES2 S rfl rfl ?_ | refine lEB S ?_ | refine lH S ?_); (refine tO ?_ ?_ <;> intro hc) <;> (refine mv ?_; (first | refine off ?_ | refine mv ?_); (first | refine off ?_ | (first | refine cT ?_ | refine cF ?_ | (refine cS ?_ ?_ <;> intro hc))) <;> ((first | refine off ?_ | refine mv ?_); (first | refine off ?_ | (first | refine vl ?_ | refine fB S ?_ | refine fS S rfl rfl ?_ | refine fA ?_)); (first | refine off ?_ | (first | refine lB S rfl rfl ?_ | refine lES2 S rfl rfl ?_ | refine lEB S ?_ | refine lH S ?_)); (first | refine off ?_ | refine mv ?_); (first | refine off ?_ | (first | refine sb ?_ | refine vl ?_)); (first | refine off ?_ | (first | refine ixB S ?_ | refine ixS2 S rfl rfl ?_)); (first | refine off ?_ | (first | refine lB S rfl rfl ?_ | refine lES2 S rfl rfl ?_ | refine lEB S ?_ | refine lH S ?_)); (first | refine off ?_ | (first | refine lB S rfl rfl ?_ | refine lES2 S rfl rfl ?_ | refine lEB S ?_ | refine lH S ?_)); (first | (refine off ?_; (first | refine off ?_ | (first | refine cT ?_ | refine cF ?_ | (refine cS ?_ ?_ <;> intro hc))) <;> ((first | refine off ?_ | refine vl ?_); refine vl ?_; refine KO_nil ?_)) | skip))))))
          · all_goals (repeat' (first | refine K_seq ?_ | refine k_cond rfl ?_ | refine K_skip ?_ | refine K_exit ?_ | refine k_block ?_ | refine K_scope ?_ | refine K_label ?_ | (refine K_region (id := 14) ?_; refine mv ?_; (first | refine vl ?_ | refine fB S ?_ | refine fS S rfl rfl ?_ | refine fA ?_); (first | refine lB S rfl rfl ?_ | refine lES2 S rfl rfl ?_ | refine lEB S ?_ | refine lH S ?_); (first | refine vl ?_ | refine fB S ?_ | refine fS S rfl rfl ?_ | refine fA ?_); (first | refine lB S rfl rfl ?_ | refine lES2 S rfl rfl ?_ | refine lEB S ?_ | refine lH S ?_); (first | refine vl ?_ | refine fB S ?_ | refine fS S rfl rfl ?_ | refine fA ?_); (first | refine lB S rfl rfl ?_ | refine lES2 S rfl rfl ?_ | refine lEB S ?_ | refine lH S ?_))))
            (refine KO_fn rfl rfl rfl rfl rfl ((tie_ok (S.front (.there .here)) t.a t.b t.k htl hTS).mono ?_); rintro _ h ⟨rfl, S⟩) <;> (refine mv ?_; refine KO_nil ?_)
            have he := he1 (by assumption) (.inr (ec.1 (by assumption)))
            refine ⟨_, ⟨S.pick, he3⟩, ?_⟩
            rw [he]
            exact (by repeat (first | exact Ks.le_nil _ | refine Ks.le_cons rfl ?_ | refine Ks.le_int ?_))
          · have he := he2 (fun z => z.2.elim (fun q => by omega) (fun q => absurd (ec.2 q) (by assumption)))
            refine ⟨⟨r.us, r.ts.take i⟩, ⟨S.pick, fun q => by rw [he] at q; cases q⟩, ?_⟩
            rw [he]
            exact (by repeat (first | exact Ks.le_nil _ | refine Ks.le_cons rfl ?_ | refine Ks.le_int ?_))
        · have he := he2 (fun z => absurd z.1 (by assumption))
          refine ⟨⟨r.us, r.ts.take i⟩, ⟨S.pick, fun q => by rw [he] at q; cases q⟩, ?_⟩
          rw [he]
          exact (by repeat (first | exact Ks.le_nil _ | refine Ks.le_cons rfl ?_ | refine Ks.le_int ?_))
      · clear S
        rintro r' h ⟨S, hr'⟩
        skip
        all_goals (repeat' (first | refine K_seq ?_ | refine k_cond rfl ?_ | refine K_skip ?_ | refine K_exit ?_ | refine k_block ?_ | refine K_scope ?_ | refine K_label ?_ | (refine K_region (id := 15) ?_; refine mv ?_; (first | refine cT ?_ | refine cF ?_ | (refine cS ?_ ?_ <;> intro hc)) <;> (refine KO_nil ?_)) | (refine K_draw (id := 16) ?_; (first | refine vl ?_ | refine fB S ?_ | refine fS S rfl rfl ?_ | refine fA ?_); (first | refine lB S rfl rfl ?_ | refine lES2 S rfl rfl ?_ | refine lEB S ?_ | refine lH S ?_); (first | refine lnB S ?_ | refine lnS S rfl rfl ?_); refine mv ?_; (first | refine ad ?_ | refine vl ?_); refine mv ?_; refine mv ?_; refine mv ?_; refine mv ?_; refine KO_nil ?_) | (refine K_region (id := 17) ?_; (first | refine ad ?_ | refine vl ?_); refine mv ?_; refine KO_nil ?_)))
        · refine K_ret ⟨_, rfl, ?_⟩
          exact .inr ⟨_, _, rfl, ⟨hc, .inr ⟨g2, i, by omega, k2, rfl, by rw [hgl]⟩⟩, S.drop⟩
        · have hz : tE0 r i = 0 := Classical.not_not.1 hc
          obtain rfl := hr' hz
          refine ⟨i + 1, ?_, ?_, (by repeat (first | exact Ks.le_nil _ | refine Ks.le_cons rfl ?_ | refine Ks.le_int ?_))⟩
          · show r.ts.length - (i + 1) < r.ts.length - i; omega
          · exact ⟨S, by omega, nxtD k2 hz⟩
    · refine K_ret ⟨_, rfl, ?_⟩
      obtain rfl : i = r.ts.length := by omega
      rw [List.take_length] at S
      exact .inl ⟨p, rfl, ⟨g2, k2⟩, S.pick⟩
end Go.Proofs.Xx

/-
  Right rolls, as a list of facts; names of numbers.
-/
namespace Go.Proofs.Xx
open Go Go.Proofs
set_option linter.unusedSimpArgs false
set_option linter.unusedVariables false
set_option linter.unusedSectionVars false
set_option maxRecDepth 100000

theorem gat_none {us : List Gu} {n : List UInt8} : gat us n = none ↔ ∀ g ∈ us, g.name ≠ n := by
  induction us with
  | nil => simp [gat]
  | cons x r ih =>
    simp only [gat]
    by_cases h : x.name = n
    · simp [h]
    · simp only [if_neg h, Option.map_eq_none_iff, ih, List.mem_cons]
      constructor
      · rintro q g (rfl | hg)
        · exact h
        · exact q g hg
      · exact fun q g hg => q g (.inr hg)
theorem gat_some {us : List Gu} {n : List UInt8} {i : Nat} (h : gat us n = some i) : i < us.length ∧ (us.getD i default).name = n ∧ ∀ j, j < i → (us.getD j default).name ≠ n := by
  induction us generalizing i with
  | nil => cases h
  | cons x r ih =>
    simp only [gat] at h
    by_cases hx : x.name = n
    · rw [if_pos hx] at h; cases h
      exact ⟨by simp, hx, fun j hj => absurd hj (Nat.not_lt_zero _)⟩
    · rw [if_neg hx] at h
      cases hr : gat r n with
      | none => rw [hr] at h; cases h
      | some k =>
        rw [hr] at h; cases h
        obtain ⟨h1, h2, h3⟩ := ih hr
        refine ⟨by simp; omega, h2, fun j hj => ?_⟩
        cases j with
        | zero => exact hx
        | succ j => exact h3 j (by simp only at hj; omega)
theorem gat_mem {us : List Gu} {n : List UInt8} : gat us n ≠ none ↔ ∃ g ∈ us, g.name = n := by
  rw [Ne, gat_none]
  constructor
  · intro h
    apply Classical.byContradiction
    intro q
    exact h fun g hg e => q ⟨g, hg, e⟩
  · rintro ⟨g, hg, e⟩ q
    exact q g hg e
theorem mem_getD {α : Type} [Inhabited α] {l : List α} {i : Nat} (h : i < l.length) : l.getD i default ∈ l := by
  rw [List.getD_eq_getElem?_getD, List.getElem?_eq_getElem h]; exact List.getElem_mem h
theorem mem_iff_getD {α : Type} [Inhabited α] {l : List α} {x : α} : x ∈ l ↔ ∃ i, i < l.length ∧ l.getD i default = x := by
  constructor
  · intro h
    obtain ⟨i, hi, rfl⟩ := List.mem_iff_getElem.1 h
    exact ⟨i, hi, by rw [List.getD_eq_getElem?_getD, List.getElem?_eq_getElem hi]; rfl⟩
  · rintro ⟨i, hi, rfl⟩
    exact mem_getD hi
/-- A right roll, as a list of facts. -/
structure RO (r : Rl) : Prop where
  chk : ∀ g ∈ r.us, chkG g = 0
  nd : ∀ i j, i < j → j < r.us.length → (r.us.getD i default).name ≠ (r.us.getD j default).name
  l64 : r.us.length ≤ 64
  ts : TS r.ts
  tt : ∀ t ∈ r.ts, sLt t.a t.b ∧ (t.k = 1 ∨ t.k = 2) ∧ gat r.us t.a ≠ none ∧ gat r.us t.b ≠ none
  l256 : r.ts.length ≤ 256
theorem RO.gat {r : Rl} (h : RO r) {i : Nat} (hi : i < r.us.length) : gat r.us (r.us.getD i default).name = some i := by
  cases hq : Xx.gat r.us (r.us.getD i default).name with
  | none => exact absurd rfl (gat_none.1 hq _ (mem_getD hi))
  | some j =>
    obtain ⟨h1, h2, h3⟩ := gat_some hq
    rcases Nat.lt_trichotomy i j with q | q | q
    · exact absurd rfl (h3 i q)
    · rw [q]
    · exact absurd h2 (h.nd j i q hi)
theorem gE0_iff {us : List Gu} {i : Nat} (hi : i < us.length) : gE0 us i = 0 ↔ chkG (us.getD i default) = 0 ∧ (∀ j, j < i → (us.getD j default).name ≠ (us.getD i default).name) ∧ i < 64 := by
  unfold gE0
  have hl : (us.take i).length = i := by simp; omega
  have hg : Xx.gat (us.take i) (us.getD i default).name = none ↔ ∀ j, j < i → (us.getD j default).name ≠ (us.getD i default).name := by
    rw [gat_none]
    constructor
    · intro h j hj
      have := h _ (mem_getD (show j < (us.take i).length by omega))
      rwa [getD_take hj] at this
    · intro h g hg
      obtain ⟨j, hj, rfl⟩ := mem_iff_getD.1 hg
      rw [getD_take (by omega)]
      exact h j (by omega)
  constructor
  · intro h
    obtain ⟨h1, h2, h3, -⟩ := addF_zero h
    exact ⟨h1, hg.1 h2, by simpa [hl] using h3⟩
  · rintro ⟨h1, h2, h3⟩
    rw [addF_0 h1 (hg.2 h2) (by show ¬ 64 ≤ (us.take i).length; omega)]
theorem tied_iff {ts : List Ti} {a b : List UInt8} (h : sLt a b) : tied ts a b ↔ ∃ t ∈ ts, t.a = a ∧ t.b = b := by unfold tied; rw [sMin_lt h, sMax_lt h]
theorem VRl_iff {r : Rl} : VRl r ↔ RO r := by
  constructor
  · rintro ⟨h1, h2⟩
    refine ⟨fun g hg => ?_, fun i j hij hj => ((gE0_iff hj).1 (h1 j hj)).2.1 i hij, gE0_len (Nat.le_refl _) h1, ?_, fun t ht => ?_, tE0_len (Nat.le_refl _) h2⟩
    · obtain ⟨i, hi, rfl⟩ := mem_iff_getD.1 hg
      exact ((gE0_iff hi).1 (h1 i hi)).1
    · have := (tE0_ts (Nat.le_refl _) h2).1
      rwa [List.take_length] at this
    · obtain ⟨i, hi, rfl⟩ := mem_iff_getD.1 ht
      obtain ⟨z1, z2, z3⟩ := tE0_zero (h2 i hi)
      obtain ⟨y1, y2, y3, y4, y5, y6, y7⟩ := tieF_zero z3
      exact ⟨z1, y1, y3, y4⟩
  · intro h
    refine ⟨fun i hi => (gE0_iff hi).2 ⟨h.chk _ (mem_getD hi), fun j hj => h.nd j i hj hi, by have := h.l64; omega⟩, fun i hi => ?_⟩
    obtain ⟨z1, z2, z3, z4⟩ := h.tt _ (mem_getD hi)
    have hb : ∀ j, j < i → bef (r.ts.getD j default) (r.ts.getD i default) := fun j hj => h.ts.lt hj hi
    have hz : i = 0 ∨ ¬ bef (r.ts.getD i default) (r.ts.getD (i - 1) default) := by
      rcases Nat.eq_zero_or_pos i with q | q
      · exact .inl q
      · exact .inr fun q2 => bef_irr _ (bef_trans (hb (i - 1) (by omega)) q2)
    unfold tE0
    rw [if_pos ⟨z1, hz⟩, tieF_0]
    · rintro (q | q)
      · omega
      · rw [q] at z1; exact sLt_irr _ z1
    · rintro (q | q)
      · exact z3 q
      · exact z4 q
    · rw [tied_iff z1]
      rintro ⟨t, ht, e1, e2⟩
      obtain ⟨j, hj, rfl⟩ := mem_iff_getD.1 ht
      have hl : (r.ts.take i).length = i := by simp; omega
      replace hj : j < i := by rw [← hl]; exact hj
      rw [getD_take (by omega)] at e1 e2
      rcases hb j (by omega) with q | q
      · rw [e1] at q; exact sLt_irr _ q
      · rw [e2] at q; exact sLt_irr _ q.2
    · have := h.l256; simp; omega
/-- The name of a number. -/
def num (j : Nat) : List UInt8 := [UInt8.ofNat (97 + j / 26 % 26), UInt8.ofNat (97 + j % 26)]
theorem u8lt {a b : Nat} (ha : a < 256) (hb : b < 256) : UInt8.ofNat a < UInt8.ofNat b ↔ a < b := by
  rw [UInt8.lt_iff_toNat_lt]
  simp [UInt8.toNat_ofNat, Nat.mod_eq_of_lt ha, Nat.mod_eq_of_lt hb]
theorem u8eq {a b : Nat} (ha : a < 256) (hb : b < 256) : UInt8.ofNat a = UInt8.ofNat b ↔ a = b := by
  constructor
  · intro h
    have := congrArg UInt8.toNat h
    simpa [UInt8.toNat_ofNat, Nat.mod_eq_of_lt ha, Nat.mod_eq_of_lt hb] using this
  · rintro rfl; rfl
theorem num_lt {i j : Nat} (hi : i < 676) (hj : j < 676) : sLt (num i) (num j) ↔ i < j := by
  unfold num
  rw [sLt_cons, sLt_cons, u8lt (by omega) (by omega), u8eq (by omega) (by omega), u8lt (by omega) (by omega)]
  constructor
  · rintro (h | ⟨h1, h2 | ⟨h2, h3⟩⟩)
    · omega
    · omega
    · exact absurd h3 (sLt_irr _)
  · intro h
    rcases Nat.lt_or_ge (i / 26) (j / 26) with q | q
    · exact .inl (by omega)
    · exact .inr ⟨by omega, .inl (by omega)⟩
theorem num_inj {i j : Nat} (hi : i < 676) (hj : j < 676) (h : num i = num j) : i = j := by
  rcases Nat.lt_trichotomy i j with q | q | q
  · have := (num_lt hi hj).2 q; rw [h] at this; exact absurd this (sLt_irr _)
  · exact q
  · have := (num_lt hj hi).2 q; rw [h] at this; exact absurd this (sLt_irr _)
theorem num_name (j : Nat) : nameP (num j) := by
  refine ⟨by simp [num], by simp [num], fun i hi => ?_⟩
  have h1 : j / 26 % 26 < 26 := Nat.mod_lt _ (by decide)
  have h2 : j % 26 < 26 := Nat.mod_lt _ (by decide)
  have hi : i < 2 := by simpa [num] using hi
  rcases (show i = 0 ∨ i = 1 by omega) with rfl | rfl
  · show lowB (UInt8.ofNat (97 + j / 26 % 26))
    unfold lowB; rw [UInt8.toNat_ofNat', Nat.mod_eq_of_lt (by omega)]; omega
  · show lowB (UInt8.ofNat (97 + j % 26))
    unfold lowB; rw [UInt8.toNat_ofNat', Nat.mod_eq_of_lt (by omega)]; omega
variable [Flag]
theorem number_ok {h0 : AH} (w : WfH h0) (j : Nat) (hj : j ≤ 1000000) : Fn Tryz.prog Xh 91 [.int .i64 j] h0 (fun v h' => v = str (num j) ∧ Hs h0 h' []) := by
  have S := Hs.start w
  refine Fn_K (by first | rfl | exact KX.no _ _ _ (by decide) rfl) Tryz.func91 rfl rfl ?_
  all_goals (repeat' (first | refine K_seq ?_ | refine k_cond rfl ?_ | refine K_skip ?_ | refine K_exit ?_ | refine k_block ?_ | refine K_scope ?_ | refine K_label ?_ | (refine K_region (id := 0) ?_; refine mv ?_; refine KO_nil ?_) | (refine K_region (id := 1) ?_; refine mv ?_; (first | refine qu ?_ | refine vl ?_); (first | refine rm ?_ | refine vl ?_); (first | refine ad ?_ | refine vl ?_); (first | refine cU ?_ | refine vl ?_); refine mv ?_; (first | refine rm ?_ | refine vl ?_); (first | refine ad ?_ | refine vl ?_); (first | refine cU ?_ | refine vl ?_))))
  refine bsn (α := Nat) (z := 1) eU [97 + j / 26 % 26, 97 + j % 26] S ?_; clear S; intro u h S
  refine bS (Rd.of_sl S .here) ?_
  (refine mv ?_; refine KO_nil ?_)
  all_goals (repeat' (first | refine K_seq ?_ | refine k_cond rfl ?_ | refine K_skip ?_ | refine K_exit ?_ | refine k_block ?_ | refine K_scope ?_ | refine K_label ?_))
  refine K_ret ⟨_, rfl, ?_⟩
  exact ⟨rfl, S.drop⟩
theorem number_okI {h0 : AH} (w : WfH h0) {z : Int} (j : Nat) (hz : z = j) (hj : j ≤ 1000000) : Fn Tryz.prog Xh 91 [.int .i64 z] h0 (fun v h' => v = str (num j) ∧ Hs h0 h' []) := by
  subst hz
  exact number_ok w j hj
theorem there_ok {h0 : AH} (w : WfH h0) (vg vt : SlV) (gs : List Gst) (hrg : RdL h0 vg.val 9 eG gs) (hl : gs.length ≤ 1000000) (j : Nat) (hj : j ≤ 1000000) :
    Fn Tryz.prog Xh 92 [.agg #[vg.val, vt.val], .int .i64 j] h0 (fun v h' => BoolIs v (∃ i, i < gs.length ∧ (gs.getD i default).name = num j) ∧ Hs h0 h' []) := by
  have S := Hs.start w
  refine Fn_K (by first | rfl | exact KX.no _ _ _ (by decide) rfl) Tryz.func92 rfl rfl ?_
  all_goals (repeat' (first | refine K_seq ?_ | refine k_cond rfl ?_ | refine K_skip ?_ | refine K_exit ?_ | refine k_block ?_ | refine K_scope ?_ | refine K_label ?_ | (refine K_region (id := 0) ?_; (refine bx S ?_; clear S; intro b h S); refine mv ?_; refine KO_nil ?_) | (refine K_region (id := 1) ?_; refine mv ?_; refine KO_nil ?_)))
  replace S : Hs h0 h [.blk b [vg.val, vt.val] 104] := S
  obtain ⟨q, hnm⟩ : ∃ x, x = b := ⟨_, rfl⟩; subst hnm
  refine k_loop (σ := Nat) (fun i h' => Hs h0 h' [.blk q [vg.val, vt.val] 104] ∧ i ≤ gs.length ∧ ∀ k, k < i → (gs.getD k default).name ≠ num j) (fun i => gs.length - i) (fun i => [(1, .int .i64 j), (2, .pointer (some ⟨q, 0, none⟩)), (5, .int .i64 i)]) 0 (by repeat (first | exact Ks.le_nil _ | refine Ks.le_cons rfl ?_ | refine Ks.le_int ?_)) ?_ ?_
  · exact ⟨S, Nat.zero_le _, fun j hj => absurd hj (Nat.not_lt_zero _)⟩
  clear S
  rintro i h ⟨S, g1, g2⟩
  all_goals (repeat' (first | refine K_seq ?_ | refine k_cond rfl ?_ | refine K_skip ?_ | refine K_exit ?_ | refine k_block ?_ | refine K_scope ?_ | refine K_label ?_ | (refine K_region (id := 2) ?_; refine mv ?_; (first | refine vl ?_ | refine fB S ?_ | refine fS S rfl rfl ?_ | refine fA ?_); (first | refine lB S rfl rfl ?_ | refine lES2 S rfl rfl ?_ | refine lEB S ?_ | refine lH S ?_); (first | refine lnB S ?_ | refine lnS S rfl rfl ?_); (first | refine cT ?_ | refine cF ?_ | (refine cS ?_ ?_ <;> intro hc)) <;> (refine KO_nil ?_)) | (refine K_region (id := 6) ?_; refine mv ?_; refine KO_nil ?_)))
  · (repeat (refine K_seq ?_)); refine K_drawX (id := 4) [(1, (0, 1)), (5, (0, 1))] [some (q), some (blkS vg.val)] ?_; refine KX_cons ?_; (first | (refine vl ?_ <;> refine KO_nil ⟨⟨by (first | exact True.intro | exact Or.inl rfl | exact Or.inr rfl | exact Or.inr (congrArg some (blkOf_elA _ _ _ _)) | exact ⟨Or.inl rfl, rfl⟩ | exact ⟨Or.inr rfl, rfl⟩), rfl⟩, ?_⟩) | (refine fB S ?_ <;> refine KO_nil ⟨⟨by (first | exact True.intro | exact Or.inl rfl | exact Or.inr rfl | exact Or.inr (congrArg some (blkOf_elA _ _ _ _)) | exact ⟨Or.inl rfl, rfl⟩ | exact ⟨Or.inr rfl, rfl⟩), rfl⟩, ?_⟩) | (refine fS S rfl rfl ?_ <;> refine KO_nil ⟨⟨by (first | exact True.intro | exact Or.inl rfl | exact Or.inr rfl | exact Or.inr (congrArg some (blkOf_elA _ _ _ _)) | exact ⟨Or.inl rfl, rfl⟩ | exact ⟨Or.inr rfl, rfl⟩), rfl⟩, ?_⟩) | (refine fA ?_ <;> refine KO_nil ⟨⟨by (first | exact True.intro | exact Or.inl rfl | exact Or.inr rfl | exact Or.inr (congrArg some (blkOf_elA _ _ _ _)) | exact ⟨Or.inl rfl, rfl⟩ | exact ⟨Or.inr rfl, rfl⟩), rfl⟩, ?_⟩)); refine KX_cons ?_; (first | (refine lB S rfl rfl ?_ <;> refine KO_nil ⟨⟨by (first | exact True.intro | exact Or.inl rfl | exact Or.inr rfl | exact Or.inr (congrArg some (blkOf_elA _ _ _ _)) | exact ⟨Or.inl rfl, rfl⟩ | exact ⟨Or.inr rfl, rfl⟩), rfl⟩, ?_⟩) | (refine lES2 S rfl rfl ?_ <;> refine KO_nil ⟨⟨by (first | exact True.intro | exact Or.inl rfl | exact Or.inr rfl | exact Or.inr (congrArg some (blkOf_elA _ _ _ _)) | exact ⟨Or.inl rfl, rfl⟩ | exact ⟨Or.inr rfl, rfl⟩), rfl⟩, ?_⟩) | (refine lEB S ?_ <;> refine KO_nil ⟨⟨by (first | exact True.intro | exact Or.inl rfl | exact Or.inr rfl | exact Or.inr (congrArg some (blkOf_elA _ _ _ _)) | exact ⟨Or.inl rfl, rfl⟩ | exact ⟨Or.inr rfl, rfl⟩), rfl⟩, ?_⟩) | (refine lH S ?_ <;> refine KO_nil ⟨⟨by (first | exact True.intro | exact Or.inl rfl | exact Or.inr rfl | exact Or.inr (congrArg some (blkOf_elA _ _ _ _)) | exact ⟨Or.inl rfl, rfl⟩ | exact ⟨Or.inr rfl, rfl⟩), rfl⟩, ?_⟩)); refine KX_cons ?_; (first | (refine mv ?_ <;> refine KO_nil ⟨⟨by (first | exact True.intro | exact Or.inl rfl | exact Or.inr rfl | exact Or.inr (congrArg some (blkOf_elA _ _ _ _)) | exact ⟨Or.inl rfl, rfl⟩ | exact ⟨Or.inr rfl, rfl⟩), rfl⟩, ?_⟩)); refine KX_cons ?_; (first | (refine ixB S ?_ <;> refine KO_nil ⟨⟨by (first | exact True.intro | exact Or.inl rfl | exact Or.inr rfl | exact Or.inr (congrArg some (blkOf_elA _ _ _ _)) | exact ⟨Or.inl rfl, rfl⟩ | exact ⟨Or.inr rfl, rfl⟩), rfl⟩, ?_⟩) | (refine ixS2 S rfl rfl ?_ <;> refine KO_nil ⟨⟨by (first | exact True.intro | exact Or.inl rfl | exact Or.inr rfl | exact Or.inr (congrArg some (blkOf_elA _ _ _ _)) | exact ⟨Or.inl rfl, rfl⟩ | exact ⟨Or.inr rfl, rfl⟩), rfl⟩, ?_⟩)); refine KX_cons ?_; (first | (refine vl ?_ <;> refine KO_nil ⟨⟨by (first | exact True.intro | exact Or.inl rfl | exact Or.inr rfl | exact Or.inr (congrArg some (blkOf_elA _ _ _ _)) | exact ⟨Or.inl rfl, rfl⟩ | exact ⟨Or.inr rfl, rfl⟩), rfl⟩, ?_⟩) | (refine fB S ?_ <;> refine KO_nil ⟨⟨by (first | exact True.intro | exact Or.inl rfl | exact Or.inr rfl | exact Or.inr (congrArg some (blkOf_elA _ _ _ _)) | exact ⟨Or.inl rfl, rfl⟩ | exact ⟨Or.inr rfl, rfl⟩), rfl⟩, ?_⟩) | (refine fS S rfl rfl ?_ <;> refine KO_nil ⟨⟨by (first | exact True.intro | exact Or.inl rfl | exact Or.inr rfl | exact Or.inr (congrArg some (blkOf_elA _ _ _ _)) | exact ⟨Or.inl rfl, rfl⟩ | exact ⟨Or.inr rfl, rfl⟩), rfl⟩, ?_⟩) | (refine fA ?_ <;> refine KO_nil ⟨⟨by (first | exact True.intro | exact Or.inl rfl | exact Or.inr rfl | exact Or.inr (congrArg some (blkOf_elA _ _ _ _)) | exact ⟨Or.inl rfl, rfl⟩ | exact ⟨Or.inr rfl, rfl⟩), rfl⟩, ?_⟩)); refine KX_cons ?_; (first | (refine lB S rfl rfl ?_ <;> refine KO_nil ⟨⟨by (first | exact True.intro | exact Or.inl rfl | exact Or.inr rfl | exact Or.inr (congrArg some (blkOf_elA _ _ _ _)) | exact ⟨Or.inl rfl, rfl⟩ | exact ⟨Or.inr rfl, rfl⟩), rfl⟩, ?_⟩) | (refine lES2 S rfl rfl ?_ <;> refine KO_nil ⟨⟨by (first | exact True.intro | exact Or.inl rfl | exact Or.inr rfl | exact Or.inr (congrArg some (blkOf_elA _ _ _ _)) | exact ⟨Or.inl rfl, rfl⟩ | exact ⟨Or.inr rfl, rfl⟩), rfl⟩, ?_⟩) | (refine lEB S ?_ <;> refine KO_nil ⟨⟨by (first | exact True.intro | exact Or.inl rfl | exact Or.inr rfl | exact Or.inr (congrArg some (blkOf_elA _ _ _ _)) | exact ⟨Or.inl rfl, rfl⟩ | exact ⟨Or.inr rfl, rfl⟩), rfl⟩, ?_⟩) | (refine lH S ?_ <;> refine KO_nil ⟨⟨by (first | exact True.intro | exact Or.inl rfl | exact Or.inr rfl | exact Or.inr (congrArg some (blkOf_elA _ _ _ _)) | exact ⟨Or.inl rfl, rfl⟩ | exact ⟨Or.inr rfl, rfl⟩), rfl⟩, ?_⟩)); refine KX_cons ?_; (first | (refine mv ?_ <;> refine KO_nil ⟨⟨by (first | exact True.intro | exact Or.inl rfl | exact Or.inr rfl | exact Or.inr (congrArg some (blkOf_elA _ _ _ _)) | exact ⟨Or.inl rfl, rfl⟩ | exact ⟨Or.inr rfl, rfl⟩), rfl⟩, ?_⟩))
    ((refine KX_cons ?_; first | refine KO_fn rfl rfl rfl rfl rfl ((number_ok S.wf j hj).mono ?_)); rintro _ h ⟨rfl, x⟩) <;> ((refine KO_nil ⟨⟨True.intro, ?_⟩, ?_⟩; (focus ((show keepsX _ _ _ _ _; simp only [keepsX]; (repeat' (first | exact True.intro | refine And.intro ?_ ?_)); all_goals (intro hw; first | exact True.intro | exact rfl | exact absurd hw (by decide +kernel) | exact x.ext.old _ S.bB | exact x.ext.old _ (S.bR (by first | omega | grind)) | exact x.ext.old _ (S.bX (by assumption) (by assumption) (by first | omega | grind)) | exact x.ext.old _ (S.bY (by assumption) (by assumption)) | (refine x.ext.old _ ?_; assumption) | exact absurd hw (by decide +kernel)))))); replace S := S.join0 x; clear x; refine KX_cons ?_; (first | ((refine tS ?_ ?_ <;> intro hc) <;> refine KO_nil ⟨⟨by (first | exact True.intro | exact Or.inl rfl | exact Or.inr rfl | exact Or.inr (congrArg some (blkOf_elA _ _ _ _)) | exact ⟨Or.inl rfl, rfl⟩ | exact ⟨Or.inr rfl, rfl⟩), rfl⟩, ?_⟩)) <;> (refine KX_nil ?_))
    · all_goals (repeat' (first | refine K_seq ?_ | refine k_cond rfl ?_ | refine K_skip ?_ | refine K_exit ?_ | refine k_block ?_ | refine K_scope ?_ | refine K_label ?_ | (refine K_region (id := 2) ?_; refine mv ?_; (first | refine vl ?_ | refine fB S ?_ | refine fS S rfl rfl ?_ | refine fA ?_); (first | refine lB S rfl rfl ?_ | refine lES2 S rfl rfl ?_ | refine lEB S ?_ | refine lH S ?_); (first | refine lnB S ?_ | refine lnS S rfl rfl ?_); (first | refine cT ?_ | refine cF ?_ | (refine cS ?_ ?_ <;> intro hc)) <;> (refine KO_nil ?_)) | (refine K_region (id := 3) ?_; refine mv ?_; (first | refine ad ?_ | refine vl ?_); refine mv ?_; refine KO_nil ?_) | (refine K_region (id := 5) ?_; refine mv ?_; refine KO_nil ?_) | (refine K_region (id := 6) ?_; refine mv ?_; refine KO_nil ?_)))
      refine K_ret ⟨_, rfl, ?_⟩
      exact ⟨.inl ⟨rfl, i, by omega, by simpa using hc⟩, S.drop⟩
    · all_goals (repeat' (first | refine K_seq ?_ | refine k_cond rfl ?_ | refine K_skip ?_ | refine K_exit ?_ | refine k_block ?_ | refine K_scope ?_ | refine K_label ?_ | (refine K_region (id := 2) ?_; refine mv ?_; (first | refine vl ?_ | refine fB S ?_ | refine fS S rfl rfl ?_ | refine fA ?_); (first | refine lB S rfl rfl ?_ | refine lES2 S rfl rfl ?_ | refine lEB S ?_ | refine lH S ?_); (first | refine lnB S ?_ | refine lnS S rfl rfl ?_); (first | refine cT ?_ | refine cF ?_ | (refine cS ?_ ?_ <;> intro hc)) <;> (refine KO_nil ?_)) | (refine K_region (id := 3) ?_; refine mv ?_; (first | refine ad ?_ | refine vl ?_); refine mv ?_; refine KO_nil ?_) | (refine K_region (id := 5) ?_; refine mv ?_; refine KO_nil ?_) | (refine K_region (id := 6) ?_; refine mv ?_; refine KO_nil ?_)))
      refine ⟨i + 1, ?_, ?_, (by repeat (first | exact Ks.le_nil _ | refine Ks.le_cons rfl ?_ | refine Ks.le_int ?_))⟩
      · show gs.length - (i + 1) < gs.length - i; omega
      · exact ⟨S, by omega, nxtD g2 (by simpa using hc)⟩
  · refine K_ret ⟨_, rfl, ?_⟩
    exact ⟨.inr ⟨rfl, fun ⟨k, h1, h2⟩ => g2 k (by omega) h2⟩, S.drop⟩
end Go.Proofs.Xx

/-
  Problems: plain; what a problem reads as; when a rule is right.
-/
namespace Go.Proofs.Xx
open Go Go.Proofs
set_option linter.unusedSimpArgs false
set_option linter.unusedVariables false
set_option linter.unusedSectionVars false
set_option maxRecDepth 100000

structure Ru where
  k : Int
  w : Int
  a : List UInt8
  b : List UInt8
  t : List UInt8
  n : Int
instance : Inhabited Ru := ⟨⟨0, 0, [], [], [], 0⟩⟩
def eRu (r : Ru) : List Value := [.int .u8 r.k, .int .i64 r.w, str r.a, str r.b, str r.t, .int .i64 r.n]
abbrev ruV (r : Ru) : Value := .agg (eRu r).toArray
/-- A problem. -/
structure Pb where
  tabs : List Tab
  us : List Gu
  ts : List Ti
  cl : List Int
  ru : List Ru
abbrev Pb.rl (p : Pb) : Rl := ⟨p.us, p.ts⟩
structure PbV where
  vt : SlV
  vg : SlV
  vi : SlV
  vc : SlV
  vr : SlV
  gs : List Gst
abbrev PbV.cs (v : PbV) : List Value := [v.vt.val, v.vg.val, v.vi.val, v.vc.val, v.vr.val]
def PbV.val (v : PbV) : Value := .agg #[v.vt.val, v.vg.val, v.vi.val, v.vc.val, v.vr.val]
abbrev PbV.rl (v : PbV) : RlV := ⟨v.vg, v.vi, v.gs⟩
structure PbOk (h : AH) (v : PbV) (p : Pb) : Prop where
  tab : HallR h v.vt.val p.tabs
  rol : RlOk h v.rl p.rl
  cl : RdL h v.vc.val 1 eI p.cl
  ru : RdL h v.vr.val 6 eRu p.ru
  lc : p.cl.length ≤ 1000000
  lr : p.ru.length ≤ 1000000
theorem PbOk.ext {h h' : AH} {v : PbV} {p : Pb} (a : PbOk h v p) (w : WfH h) (x : Ext h h') : PbOk h' v p := ⟨a.tab.ext w x, a.rol.ext w x, a.cl.ext w x, a.ru.ext w x, a.lc, a.lr⟩

/-- What a kind of rule asks: A (0, 'g', 'e', 'd'), B, Table (0, 't', 'e'), N, the least N, whether N is a seat. -/
structure Kd where
  a : Int
  b : Bool
  t : Int
  n : Bool
  lo : Int
  seat : Bool
instance : Inhabited Kd := ⟨⟨0, false, 0, false, 0, false⟩⟩
/-- Kinds by their numbers, less one. -/
def kdL : List Kd := [⟨103, true, 0, true, 0, false⟩, ⟨103, true, 0, false, 0, false⟩, ⟨103, true, 0, false, 0, false⟩, ⟨103, true, 0, true, 1, false⟩, ⟨103, true, 0, false, 0, false⟩,
  ⟨103, false, 116, false, 0, false⟩, ⟨103, false, 116, true, 0, true⟩, ⟨0, false, 101, false, 0, false⟩, ⟨0, false, 101, false, 0, false⟩, ⟨101, false, 0, false, 0, false⟩,
  ⟨0, false, 101, false, 0, false⟩, ⟨0, false, 101, false, 0, false⟩, ⟨0, false, 101, false, 0, false⟩, ⟨0, false, 101, false, 0, false⟩, ⟨0, false, 101, true, 0, false⟩,
  ⟨0, false, 101, true, 0, false⟩, ⟨100, false, 116, false, 0, false⟩, ⟨0, false, 101, false, 0, false⟩]
def kdOf (k : Int) : Kd := kdL.getD (k.toNat - 1) default
/-- Where the guest of a name is, -1 if nowhere. -/
def gI (us : List Gu) (n : List UInt8) : Int := match gat us n with | some i => i | none => -1
theorem gI_none {us : List Gu} {n : List UInt8} : gI us n < 0 ↔ gat us n = none := by
  unfold gI
  cases gat us n with
  | none => simp
  | some i => simp
def hasT (l : List Tab) (n : List UInt8) : Prop := ∃ j, j < l.length ∧ (tb l j).name = n
def tix (l : List Tab) (n : List UInt8) : Nat := l.findIdx fun t => decide (t.name = n)
theorem tix_eq {l : List Tab} {n : List UInt8} {k : Nat} (hk : k < l.length) (h1 : (tb l k).name = n) (h2 : ∀ j, j < k → ¬ (tb l j).name = n) : tix l n = k := by
  unfold tix
  rw [List.findIdx_eq hk]
  unfold tb at h1 h2
  refine ⟨?_, fun j hj => ?_⟩
  · rw [List.getD_eq_getElem?_getD, List.getElem?_eq_getElem hk] at h1
    simpa using h1
  · have := h2 j hj
    rw [List.getD_eq_getElem?_getD, List.getElem?_eq_getElem (by omega)] at this
    simpa using this
def Kd.plain (k : Kd) (r : Ru) : Prop := (k.a ≠ 0 ∨ r.a = []) ∧ (k.b = true ∨ r.b = []) ∧ (k.t ≠ 0 ∨ r.t = []) ∧ (k.n = true ∨ r.n = 0)
def Kd.unk (k : Kd) (us : List Gu) (r : Ru) : Prop := (k.a = 103 ∧ gat us r.a = none) ∨ (k.a = 101 ∧ r.a ≠ [] ∧ gat us r.a = none) ∨ (k.b = true ∧ gat us r.b = none)
def Kd.ut (k : Kd) (l : List Tab) (r : Ru) : Prop := (k.t = 116 ∧ ¬ hasT l r.t) ∨ (k.t = 101 ∧ r.t ≠ [] ∧ ¬ hasT l r.t)
def Kd.most (k : Kd) (l : List Tab) (r : Ru) : Int := if k.seat = true then tsize (tb l (tix l r.t)) - 1 else 24
open Classical in
/-- What is wrong with a rule of a kind. -/
noncomputable def Kd.err (k : Kd) (p : Pb) (r : Ru) : Int :=
  if r.w < 0 ∨ 1000 < r.w then 41 else if ¬ k.plain r then 43 else if k.unk p.us r then 6 else if k.a = 100 ∧ ¬ nameP r.a then 4 else if k.b = true ∧ r.a = r.b then 5 else
  if k.ut p.tabs r then 6 else if k.n = true ∧ (r.n < k.lo ∨ k.most p.tabs r < r.n) then 42 else 0
/-- What is wrong with a rule. -/
noncomputable def ruE (p : Pb) (r : Ru) : Int := if 1 ≤ r.k ∧ r.k ≤ 18 then (kdOf r.k).err p r else 40
/-- A right problem. -/
structure PO (p : Pb) : Prop where
  tabs : ValidL p.tabs
  rl : RO p.rl
  cl : (p.cl.length = 0 ∨ p.cl.length = p.us.length) ∧ ∀ c ∈ p.cl, 0 ≤ c ∧ c < 64
  room : (p.us.length : Int) ≤ sumT p.tabs p.tabs.length
  ru : ∀ r ∈ p.ru, ruE p r = 0
  lr : p.ru.length ≤ 64
/-- What is wrong with a problem, but for its rules: where, and its number. -/
def BasP (p : Pb) (i e : Int) : Prop :=
  (e ≠ 0 ∧ ChkAll p.tabs i e) ∨ (ValidL p.tabs ∧ Bad p.rl i e) ∨ (ValidL p.tabs ∧ RO p.rl ∧ ((¬ ((p.cl.length = 0 ∨ p.cl.length = p.us.length) ∧ ∀ c ∈ p.cl, 0 ≤ c ∧ c < 64) ∧ i = 0 ∧ e = 44) ∨
    (((p.cl.length = 0 ∨ p.cl.length = p.us.length) ∧ ∀ c ∈ p.cl, 0 ≤ c ∧ c < 64) ∧ ((sumT p.tabs p.tabs.length < p.us.length ∧ i = 0 ∧ e = 45) ∨ ((p.us.length : Int) ≤ sumT p.tabs p.tabs.length ∧ i = 0 ∧ e = 0)))))
/-- A problem that is right but for its rules. -/
structure BO (p : Pb) : Prop where
  tabs : ValidL p.tabs
  rl : RO p.rl
  cl : (p.cl.length = 0 ∨ p.cl.length = p.us.length) ∧ ∀ c ∈ p.cl, 0 ≤ c ∧ c < 64
  room : (p.us.length : Int) ≤ sumT p.tabs p.tabs.length
theorem BasP.bo {p : Pb} {i : Int} (b : BasP p i 0) : BO p ∧ i = 0 := by
  rcases b with ⟨h, -⟩ | ⟨-, h, -⟩ | ⟨h1, h2, ⟨-, -, h⟩ | ⟨h3, ⟨-, -, h⟩ | ⟨h4, h5, -⟩⟩⟩
  · exact absurd rfl h
  · exact absurd rfl h
  · cases h
  · cases h
  · exact ⟨⟨h1, h2, h3, h4⟩, h5⟩
theorem BO.basP {p : Pb} (h : BO p) {i e : Int} (b : BasP p i e) : i = 0 ∧ e = 0 := by
  rcases b with ⟨h1, h2⟩ | ⟨-, h1, h2⟩ | ⟨h1, h2, ⟨h3, -, -⟩ | ⟨h3, ⟨h4, -, -⟩ | ⟨h4, h5, h6⟩⟩⟩
  · exact absurd (h2.valid.2 h.tabs) h1
  · have hv := VRl_iff.2 h.rl
    rcases h2 with ⟨j, h3, h4, h5, -⟩ | ⟨h0, j, h3, h4, h5, -⟩
    · exact absurd (h5.symm.trans (hv.1 j h3)) h1
    · exact absurd (h5.symm.trans (hv.2 j h3)) h1
  · exact absurd h.cl h3
  · have := h.room; omega
  · exact ⟨h5, h6⟩
/-- What is wrong with a problem: where, and its number. -/
def CkP (p : Pb) (i e : Int) : Prop :=
  (e ≠ 0 ∧ BasP p i e) ∨ (BO p ∧ ((∃ j : Nat, j < p.ru.length ∧ i = j ∧ j ≤ 64 ∧ (∀ q, q < j → ruE p (p.ru.getD q default) = 0) ∧ ((ruE p (p.ru.getD j default) ≠ 0 ∧ e = ruE p (p.ru.getD j default)) ∨ (ruE p (p.ru.getD j default) = 0 ∧ j = 64 ∧ e = 7))) ∨
    (p.ru.length ≤ 64 ∧ (∀ q, q < p.ru.length → ruE p (p.ru.getD q default) = 0) ∧ i = 0 ∧ e = 0)))
theorem PO.bo {p : Pb} (h : PO p) : BO p := ⟨h.tabs, h.rl, h.cl, h.room⟩
theorem CkP.po {p : Pb} {i e : Int} (c : CkP p i e) : e = 0 ↔ PO p := by
  rcases c with ⟨h1, h2⟩ | ⟨h1, ⟨j, h2, h3, h4, h5, ⟨h6, h7⟩ | ⟨h6, h7, h8⟩⟩ | ⟨h2, h3, h4, h5⟩⟩
  · exact ⟨fun h => absurd h h1, fun h => (h.bo.basP h2).2⟩
  · exact ⟨fun h => absurd (h7.symm.trans h) h6, fun h => absurd (h.ru _ (mem_getD h2)) h6⟩
  · exact ⟨fun h => by omega, fun h => by have := h.lr; omega⟩
  · refine ⟨fun _ => ⟨h1.tabs, h1.rl, h1.cl, h1.room, fun r hr => ?_, h2⟩, fun _ => h5⟩
    obtain ⟨q, hq, rfl⟩ := mem_iff_getD.1 hr
    exact h3 q hq
/-- A partial plan. -/
structure PartOk (p : Pb) (q : List Int) : Prop where
  len : q.length = p.us.length
  rng : ∀ x ∈ q, -1 ≤ x ∧ x < sumT p.tabs p.tabs.length
  nd : ∀ i j, i < j → j < q.length → 0 ≤ q.getD i default → q.getD i default ≠ q.getD j default
/-- Where a table stands, or the kitchen. -/
def ptX (l : List Tab) (t : Int) : Int := if t < 0 then 0 else (tb l t.toNat).X
def ptY (l : List Tab) (t : Int) : Int := if t < 0 then 0 else (tb l t.toNat).Y
def stp (l : List Tab) (a b : Int) : Int := max (ptX l a - ptX l b) (ptX l b - ptX l a) + max (ptY l a - ptY l b) (ptY l b - ptY l a)
end Go.Proofs.Xx

/-
  Guests by their names, fields that a kind wants, names: what the check of a rule asks.
-/
namespace Go.Proofs.Xx
set_option linter.unusedSectionVars false
open Go Go.Proofs
set_option linter.unusedSimpArgs false
set_option linter.unusedVariables false
set_option maxRecDepth 100000
set_option maxHeartbeats 1000000

theorem whoF_ok {h0 : AH} (w : WfH h0) (g : Gst) (nm : List UInt8) (b : Nat) (hb : h0.get b = some (.cells [str nm] 9 none false)) : Fn Tryz.prog Xh 155 [gV g, .pointer (some ⟨b, 0, none⟩)] h0 (fun v h' => BoolIs v (g.name = nm) ∧ Hs h0 h' []) := by
  have S := Hs.start w
  refine Fn_K (by first | rfl | exact KX.no _ _ _ (by decide) rfl) Tryz.func155 rfl rfl ?_
  all_goals (repeat' (first | refine K_seq ?_ | refine k_cond rfl ?_ | refine K_skip ?_ | refine K_exit ?_ | refine k_block ?_ | refine K_scope ?_ | refine K_label ?_ | (refine K_region (id := 0) ?_; (refine bx S ?_; clear S; intro b h S); refine mv ?_; refine KO_nil ?_) | (refine K_region (id := 1) ?_; (first | refine vl ?_ | refine fB S ?_ | refine fS S rfl rfl ?_ | refine fA ?_); (first | refine lB S rfl rfl ?_ | refine lES2 S rfl rfl ?_ | refine lEB S ?_ | refine lH S ?_); (first | refine lB S rfl rfl ?_ | refine lES2 S rfl rfl ?_ | refine lEB S ?_ | refine lH S ?_); (refine tS ?_ ?_ <;> intro hc) <;> (refine mv ?_; refine KO_nil ?_))))
  all_goals (refine K_ret ⟨_, rfl, ?_⟩)
  all_goals (refine ⟨?_, S.drop⟩; unfold BoolIs)
  · exact .inl ⟨rfl, hc⟩
  · exact .inr ⟨rfl, hc⟩
theorem idxG_ok {h0 : AH} (w : WfH h0) (v : Value) (l : List Gst) (g : Nat) (cap : List Value) (p : Nat → Prop) (hr : RdL h0 v 9 eG l) (hl : l.length ≤ 9223372036854775807)
    (hf : ∀ i h, i < l.length → Hs h0 h [] → Fn Tryz.prog Xh g (gV (l.getD i default) :: cap) h (fun v h' => BoolIs v (p i) ∧ Hs h h' [])) :
    Fn Tryz.prog Xh 154 [v, .func (.func g) #[] cap.toArray] h0 (fun r h' => IdxIs r p l.length ∧ Hs h0 h' []) := by
  have S := Hs.start w
  refine Fn_K (by first | rfl | exact KX.no _ _ _ (by decide) rfl) Tryz.func154 rfl rfl ?_
  all_goals (repeat' (first | refine K_seq ?_ | refine k_cond rfl ?_ | refine K_skip ?_ | refine K_exit ?_ | refine k_block ?_ | refine K_scope ?_ | refine K_label ?_ | (refine K_region (id := 0) ?_; refine mv ?_; refine KO_nil ?_) | (refine K_region (id := 1) ?_; refine mv ?_; (first | refine lnB S ?_ | refine lnS S rfl rfl ?_); refine mv ?_; refine KO_nil ?_)))
  refine k_loop (σ := Nat) (fun i h' => Hs h0 h' [] ∧ i ≤ l.length ∧ ∀ j, j < i → ¬ p j) (fun i => l.length - i) (fun i => [(0, v), (1, .func (.func g) #[] cap.toArray), (7, .int .i64 l.length), (8, .int .i64 i)]) 0 (by repeat (first | exact Ks.le_nil _ | refine Ks.le_cons rfl ?_ | refine Ks.le_int ?_)) ?_ ?_
  · exact ⟨S, Nat.zero_le _, fun j hj => absurd hj (Nat.not_lt_zero _)⟩
  clear S
  rintro i h ⟨S, h1, h2⟩
  all_goals (repeat' (first | refine K_seq ?_ | refine k_cond rfl ?_ | refine K_skip ?_ | refine K_exit ?_ | refine k_block ?_ | refine K_scope ?_ | refine K_label ?_ | (refine K_region (id := 2) ?_; (first | refine cT ?_ | refine cF ?_ | (refine cS ?_ ?_ <;> intro hc)) <;> (refine KO_nil ?_)) | (refine K_region (id := 3) ?_; refine mv ?_; refine mv ?_; refine KO_nil ?_) | (refine K_region (id := 4) ?_; refine mv ?_; refine mv ?_; refine mv ?_; (first | refine ixB S ?_ | refine ixS2 S rfl rfl ?_); (first | refine lB S rfl rfl ?_ | refine lES2 S rfl rfl ?_ | refine lEB S ?_ | refine lH S ?_)) | (refine K_region (id := 7) ?_; refine mv ?_; refine KO_nil ?_)))
  · (refine KO_call rfl rfl rfl rfl ((hf i _ (by omega) S).mono ?_); rintro _ h ⟨⟨rfl, hq⟩ | ⟨rfl, hq⟩, x⟩) <;> (replace S := S.join0 x; clear x; refine KO_nil ?_)
    all_goals (repeat' (first | refine K_seq ?_ | refine k_cond rfl ?_ | refine K_skip ?_ | refine K_exit ?_ | refine k_block ?_ | refine K_scope ?_ | refine K_label ?_ | (refine K_region (id := 5) ?_; refine mv ?_; refine mv ?_; refine KO_nil ?_) | (refine K_region (id := 6) ?_; (first | refine ad ?_ | refine vl ?_); refine mv ?_; refine KO_nil ?_)))
    · refine K_ret ⟨_, rfl, ?_⟩
      exact ⟨.inl ⟨i, by omega, rfl, hq, h2⟩, S⟩
    · refine ⟨i + 1, ?_, ?_, (by repeat (first | exact Ks.le_nil _ | refine Ks.le_cons rfl ?_ | refine Ks.le_int ?_))⟩
      · show l.length - (i + 1) < l.length - i; omega
      · exact ⟨S, by omega, nxtD h2 hq⟩
  · refine K_ret ⟨_, rfl, ?_⟩
    exact ⟨.inr ⟨rfl, fun j hj => h2 j (by omega)⟩, S⟩
theorem gat_idx {gs : List Gst} {us : List Gu} (hu : gs.map (·.toGu) = us) (nm : List UInt8) {v : Value} (h : IdxIs v (fun i => (gs.getD i default).name = nm) gs.length) : v = .int .i64 (gI us nm) := by
  have e : ∀ i, i < gs.length → (us.getD i default).name = (gs.getD i default).name := fun i hi => by
    rw [← hu, map_getD hi]
  have hl : gs.length = us.length := by rw [← hu]; simp
  unfold gI
  rcases h with ⟨i, hi, rfl, h1, h2⟩ | ⟨rfl, h2⟩
  · cases hq : gat us nm with
    | none => exact absurd ((e i hi).trans h1) (gat_none.1 hq _ (mem_getD (by omega)))
    | some j =>
      obtain ⟨q1, q2, q3⟩ := gat_some hq
      rcases Nat.lt_trichotomy i j with q | q | q
      · exact absurd ((e i hi).trans h1) (q3 i q)
      · rw [q]
      · exact absurd ((e j (by omega)).symm.trans q2) (h2 j q)
  · cases hq : gat us nm with
    | none => rfl
    | some j =>
      obtain ⟨q1, q2, q3⟩ := gat_some hq
      exact absurd ((e j (by omega)).symm.trans q2) (h2 j (by omega))
theorem who_ok {h0 : AH} (w : WfH h0) (v : PbV) (p : Pb) (H : PbOk h0 v p) (nm : List UInt8) : Fn Tryz.prog Xh 115 [v.val, str nm] h0 (fun r h' => r = .int .i64 (gI p.us nm) ∧ Hs h0 h' []) := by
  have S := Hs.start w
  have hr := H.rol.rg
  have hl := H.rol.len
  have hlg : v.gs.length ≤ 9223372036854775807 := by rw [hl]; exact H.rol.lg
  unfold PbV.val
  refine Fn_K (by first | rfl | exact KX.no _ _ _ (by decide) rfl) Tryz.func115 rfl rfl ?_
  all_goals (repeat' (first | refine K_seq ?_ | refine k_cond rfl ?_ | refine K_skip ?_ | refine K_exit ?_ | refine k_block ?_ | refine K_scope ?_ | refine K_label ?_ | (refine K_region (id := 0) ?_; (refine bx S ?_; clear S; intro b h S); (refine bx S ?_; clear S; intro b h S); refine mv ?_; refine KO_nil ?_) | (refine K_region (id := 1) ?_; (first | refine vl ?_ | refine fB S ?_ | refine fS S rfl rfl ?_ | refine fA ?_); (first | refine lB S rfl rfl ?_ | refine lES2 S rfl rfl ?_ | refine lEB S ?_ | refine lH S ?_); refine vl ?_)))
  have gb := S.gB (b := b)
  have hf : ∀ i h', i < v.gs.length → Hs h h' [] → Fn Tryz.prog Xh 155 (gV (v.gs.getD i default) :: [.pointer (some ⟨b, 0, none⟩)]) h' (fun v' h'' => BoolIs v' ((v.gs.getD i default).name = nm) ∧ Hs h' h'' []) := fun i h' hi x => whoF_ok x.wf (v.gs.getD i default) nm b (x.ext.get S.wf gb)
  (refine KO_fn rfl rfl rfl rfl rfl ((idxG_ok S.wf v.vg.val v.gs 155 [.pointer (some ⟨b, 0, none⟩)] (fun i => (v.gs.getD i default).name = nm) (hr.ext w S.ext) hlg hf).mono ?_); rintro _ h ⟨hq, x⟩) <;> (replace S := S.join0 x; clear x; refine mv ?_; refine KO_nil ?_)
  obtain rfl := gat_idx H.rol.us nm hq
  all_goals (repeat' (first | refine K_seq ?_ | refine k_cond rfl ?_ | refine K_skip ?_ | refine K_exit ?_ | refine k_block ?_ | refine K_scope ?_ | refine K_label ?_))
  refine K_ret ⟨_, rfl, ?_⟩
  exact ⟨rfl, S.drop⟩
theorem rname_ok {h : AH} (s : List UInt8) : Fn Tryz.prog Xh 116 [str s] h (fun v h' => BoolIs v (nameP s) ∧ h' = h) := by
  refine Fn_K (by first | rfl | exact KX.no _ _ _ (by decide) rfl) Tryz.func116 rfl rfl ?_
  all_goals (repeat' (first | refine K_seq ?_ | refine k_cond rfl ?_ | refine K_skip ?_ | refine K_exit ?_ | refine k_block ?_ | refine K_scope ?_ | refine K_label ?_ | (refine K_region (id := 0) ?_; refine mv ?_; refine KO_nil ?_) | (refine K_region (id := 1) ?_; refine mv ?_; refine tl ?_; (first | refine cT ?_ | refine cF ?_ | (refine cS ?_ ?_ <;> intro hc)) <;> (refine mv ?_; (first | refine off ?_ | refine mv ?_); (first | refine off ?_ | refine tl ?_); (first | refine off ?_ | (first | refine cT ?_ | refine cF ?_ | (refine cS ?_ ?_ <;> intro hc))) <;> (refine vl ?_; refine KO_nil ?_))) | (refine K_region (id := 2) ?_; refine mv ?_; refine KO_nil ?_)))
  · refine K_ret ⟨_, rfl, ?_⟩
    exact ⟨.inr ⟨rfl, fun q => by have := q.1; omega⟩, rfl⟩
  · refine K_ret ⟨_, rfl, ?_⟩
    exact ⟨.inr ⟨rfl, fun q => by have := q.2.1; omega⟩, rfl⟩
  all_goals (repeat' (first | refine K_seq ?_ | refine k_cond rfl ?_ | refine K_skip ?_ | refine K_exit ?_ | refine k_block ?_ | refine K_scope ?_ | refine K_label ?_ | (refine K_region (id := 3) ?_; refine mv ?_; refine tl ?_; refine mv ?_; refine KO_nil ?_)))
  refine k_loop (σ := Nat) (fun i h' => h' = h ∧ i ≤ s.length ∧ ∀ j, j < i → lowB (s.getD j default)) (fun i => s.length - i) (fun i => [(0, str s), (13, .int .i64 s.length), (14, .int .i64 i)]) 0 (by repeat (first | exact Ks.le_nil _ | refine Ks.le_cons rfl ?_ | refine Ks.le_int ?_)) ?_ ?_
  · exact ⟨rfl, Nat.zero_le _, fun j hj => absurd hj (Nat.not_lt_zero _)⟩
  rintro i h ⟨rfl, h1, h2⟩
  all_goals (repeat' (first | refine K_seq ?_ | refine k_cond rfl ?_ | refine K_skip ?_ | refine K_exit ?_ | refine k_block ?_ | refine K_scope ?_ | refine K_label ?_ | (refine K_region (id := 4) ?_; (first | refine cT ?_ | refine cF ?_ | (refine cS ?_ ?_ <;> intro hc)) <;> (refine KO_nil ?_)) | (refine K_region (id := 5) ?_; refine mv ?_; refine mv ?_; refine KO_nil ?_) | (refine K_region (id := 6) ?_; refine mv ?_; refine mv ?_; (first | refine ti ?_ | refine vl ?_); (first | refine cT ?_ | refine cF ?_ | (refine cS ?_ ?_ <;> intro hc)) <;> (refine mv ?_; (first | refine off ?_ | refine mv ?_); (first | refine off ?_ | refine mv ?_); (first | refine off ?_ | (first | refine ti ?_ | refine vl ?_)); (first | refine off ?_ | (first | refine cT ?_ | refine cF ?_ | (refine cS ?_ ?_ <;> intro hc))) <;> (refine vl ?_; refine KO_nil ?_))) | (refine K_region (id := 7) ?_; refine mv ?_; refine KO_nil ?_) | (refine K_region (id := 8) ?_; (first | refine ad ?_ | refine vl ?_); refine mv ?_; refine KO_nil ?_) | (refine K_region (id := 9) ?_; refine mv ?_; refine KO_nil ?_)))
  all_goals (try simp only [Int.toNat_natCast] at *)
  · refine K_ret ⟨_, rfl, ?_⟩
    exact ⟨.inr ⟨rfl, fun q => by have := q.2.2 i (by omega); unfold lowB at this; simp only [u8def] at this; omega⟩, rfl⟩
  · refine K_ret ⟨_, rfl, ?_⟩
    exact ⟨.inr ⟨rfl, fun q => by have := q.2.2 i (by omega); unfold lowB at this; simp only [u8def] at this; omega⟩, rfl⟩
  · refine ⟨i + 1, ?_, ?_, (by repeat (first | exact Ks.le_nil _ | refine Ks.le_cons rfl ?_ | refine Ks.le_int ?_))⟩
    · show s.length - (i + 1) < s.length - i; omega
    · refine ⟨rfl, by omega, nxtD h2 ?_⟩
      unfold lowB
      simp only [u8def]
      omega
  · refine K_ret ⟨_, rfl, ?_⟩
    exact ⟨.inl ⟨rfl, by omega, by omega, fun j hj => h2 j (by omega)⟩, rfl⟩

/-- A kind as it lies in the table: its word, its fields, its function. -/
def eKd (wd : List UInt8) (k : Kd) (f : Value) : List Value := [str wd, .int .u8 k.a, .bool k.b, .int .u8 k.t, .bool k.n, .int .i64 k.lo, .bool k.seat, f]
abbrev kdV (wd : List UInt8) (k : Kd) (f : Value) : Value := .agg (eKd wd k f).toArray
theorem plain_ok {h0 : AH} (w : WfH h0) (wd : List UInt8) (k : Kd) (f : Value) (r : Ru) : Fn Tryz.prog Xh 114 [kdV wd k f, ruV r] h0 (fun v h' => BoolIs v (k.plain r) ∧ Hs h0 h' []) := by
  have S := Hs.start w
  obtain ⟨ka, kb, kt, kn, lo, st⟩ := k
  unfold kdV eKd ruV eRu
  cases kb <;> cases kn
  all_goals (refine Fn_K (by first | rfl | exact KX.no _ _ _ (by decide) rfl) Tryz.func114 rfl rfl ?_)
  all_goals (all_goals (repeat' (first | refine K_seq ?_ | refine k_cond rfl ?_ | refine K_skip ?_ | refine K_exit ?_ | refine k_block ?_ | refine K_scope ?_ | refine K_label ?_ | (refine K_region (id := 0) ?_; (refine bx S ?_; clear S; intro b h S); (refine bx S ?_; clear S; intro b h S); refine mv ?_; refine KO_nil ?_) | (refine K_region (id := 1) ?_; (first | refine vl ?_ | refine fB S ?_ | refine fS S rfl rfl ?_ | refine fA ?_); (first | refine lB S rfl rfl ?_ | refine lES2 S rfl rfl ?_ | refine lEB S ?_ | refine lH S ?_); (first | refine cT ?_ | refine cF ?_ | (refine cS ?_ ?_ <;> intro hc)) <;> (refine mv ?_; (first | refine off ?_ | (first | refine vl ?_ | refine fB S ?_ | refine fS S rfl rfl ?_ | refine fA ?_)); (first | refine off ?_ | (first | refine lB S rfl rfl ?_ | refine lES2 S rfl rfl ?_ | refine lEB S ?_ | refine lH S ?_)); (first | refine off ?_ | (refine tS ?_ ?_ <;> intro hc)) <;> (refine vl ?_; refine mv ?_; (first | refine off ?_ | (first | refine vl ?_ | refine fB S ?_ | refine fS S rfl rfl ?_ | refine fA ?_)); (first | refine off ?_ | (first | refine lB S rfl rfl ?_ | refine lES2 S rfl rfl ?_ | refine lEB S ?_ | refine lH S ?_)); (first | refine off ?_ | refine mv ?_); (first | refine off ?_ | (first | refine vl ?_ | refine fB S ?_ | refine fS S rfl rfl ?_ | refine fA ?_)); (first | refine off ?_ | (first | refine lB S rfl rfl ?_ | refine lES2 S rfl rfl ?_ | refine lEB S ?_ | refine lH S ?_)); (first | refine off ?_ | (refine tS ?_ ?_ <;> intro hc)) <;> ((first | refine off ?_ | refine vl ?_); refine vl ?_; refine mv ?_; (first | refine off ?_ | (first | refine vl ?_ | refine fB S ?_ | refine fS S rfl rfl ?_ | refine fA ?_)); (first | refine off ?_ | (first | refine lB S rfl rfl ?_ | refine lES2 S rfl rfl ?_ | refine lEB S ?_ | refine lH S ?_)); (first | refine off ?_ | (first | refine cT ?_ | refine cF ?_ | (refine cS ?_ ?_ <;> intro hc))) <;> ((first | refine off ?_ | refine mv ?_); (first | refine off ?_ | (first | refine vl ?_ | refine fB S ?_ | refine fS S rfl rfl ?_ | refine fA ?_)); (first | refine off ?_ | (first | refine lB S rfl rfl ?_ | refine lES2 S rfl rfl ?_ | refine lEB S ?_ | refine lH S ?_)); (first | refine off ?_ | (refine tS ?_ ?_ <;> intro hc)) <;> ((first | refine off ?_ | refine vl ?_); refine vl ?_; refine mv ?_; (first | refine off ?_ | (first | refine vl ?_ | refine fB S ?_ | refine fS S rfl rfl ?_ | refine fA ?_)); (first | refine off ?_ | (first | refine lB S rfl rfl ?_ | refine lES2 S rfl rfl ?_ | refine lEB S ?_ | refine lH S ?_)); (first | refine off ?_ | refine mv ?_); (first | refine off ?_ | (first | refine vl ?_ | refine fB S ?_ | refine fS S rfl rfl ?_ | refine fA ?_)); (first | refine off ?_ | (first | refine lB S rfl rfl ?_ | refine lES2 S rfl rfl ?_ | refine lEB S ?_ | refine lH S ?_)); (first | refine off ?_ | (first | refine cT ?_ | refine cF ?_ | (refine cS ?_ ?_ <;> intro hc))) <;> ((first | refine off ?_ | refine vl ?_); refine vl ?_; refine mv ?_; refine KO_nil ?_))))))))))
  all_goals (refine K_ret ⟨_, rfl, ?_⟩)
  all_goals refine ⟨?_, S.drop⟩
  all_goals unfold BoolIs
  all_goals first | exact .inl ⟨rfl, by simp_all [Kd.plain]⟩ | exact .inr ⟨rfl, by simp_all [Kd.plain]⟩
end Go.Proofs.Xx
