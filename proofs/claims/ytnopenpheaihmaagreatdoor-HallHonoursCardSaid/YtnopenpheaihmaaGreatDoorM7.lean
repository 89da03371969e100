/-
  The seat of honour of a table; the levels of its seats.
-/
import Derived.Test.YtnopenpheaihmaaGreatDoorM6
import Derived.Test.YtnopenpheaihmaaGreatDoorM3

namespace Go.Proofs.Xx
open Go Go.Proofs
set_option linter.unusedSimpArgs false
set_option linter.unusedVariables false
set_option maxRecDepth 100000

def honLong (a b : Int) : Int := if b > 0 then a else a / 2
def honOf (s a b : Int) : Int := if s = 2 then honLong a b else if s = 3 then b + a / 2 else if s = 4 then a / 2 else 0
theorem tdiv2 {a : Int} (h : 0 ≤ a) : Int.tdiv a 2 = a / 2 := Int.tdiv_eq_ediv_of_nonneg h

theorem hon1_ok {h : AH} (a b : Int) : Fn Tryz.prog Xh 146 [.int .i64 a, .int .i64 b] h (fun v h' => v = .int .i64 0 ∧ h' = h) := by
  refine Fn_K rfl Tryz.func146 rfl rfl ?_
  all_goals (repeat' (first | refine K_seq ?_ | refine k_cond rfl ?_ | refine K_skip ?_ | refine K_exit ?_ | refine k_block ?_ | refine K_scope ?_ | (refine K_region (id := 0) ?_; refine mv ?_; refine KO_nil ?_) | (refine K_region (id := 1) ?_; refine mv ?_; refine KO_nil ?_)))
  all_goals (refine K_ret ⟨_, rfl, ?_⟩)
  exact ⟨rfl, rfl⟩
theorem hon2_ok {h : AH} (a b : Int) (ha : 0 ≤ a ∧ a ≤ 100) (hb : 0 ≤ b ∧ b ≤ 100) : Fn Tryz.prog Xh 151 [.int .i64 a, .int .i64 b] h (fun v h' => v = .int .i64 (honLong a b) ∧ h' = h) := by
  refine Fn_K rfl Tryz.func151 rfl rfl ?_
  all_goals (repeat' (first | refine K_seq ?_ | refine k_cond rfl ?_ | refine K_skip ?_ | refine K_exit ?_ | refine k_block ?_ | refine K_scope ?_ | (refine K_region (id := 0) ?_; refine mv ?_; refine KO_nil ?_) | (refine K_region (id := 1) ?_; refine mv ?_; (first | refine cT ?_ | refine cF ?_ | (refine cS ?_ ?_ <;> intro hc)) <;> (refine KO_nil ?_)) | (refine K_region (id := 2) ?_; refine mv ?_; refine mv ?_; refine KO_nil ?_) | (refine K_region (id := 3) ?_; refine mv ?_; (first | refine qu ?_ | refine vl ?_); refine mv ?_; refine KO_nil ?_)))
  all_goals (refine K_ret ⟨_, rfl, ?_⟩)
  all_goals (refine ⟨?_, rfl⟩; unfold honLong)
  · rw [if_pos (by omega)]; rfl
  · rw [if_neg (by omega), ← tdiv2 (by omega)]; rfl
theorem hon3_ok {h : AH} (a b : Int) (ha : 0 ≤ a ∧ a ≤ 100) (hb : 0 ≤ b ∧ b ≤ 100) : Fn Tryz.prog Xh 156 [.int .i64 a, .int .i64 b] h (fun v h' => v = .int .i64 (b + a / 2) ∧ h' = h) := by
  have e := tdiv2 ha.1
  refine Fn_K rfl Tryz.func156 rfl rfl ?_
  all_goals (repeat' (first | refine K_seq ?_ | refine k_cond rfl ?_ | refine K_skip ?_ | refine K_exit ?_ | refine k_block ?_ | refine K_scope ?_ | (refine K_region (id := 0) ?_; refine mv ?_; refine KO_nil ?_) | (refine K_region (id := 1) ?_; refine mv ?_; refine mv ?_; (first | refine qu ?_ | refine vl ?_); (first | refine ad ?_ | refine vl ?_); refine mv ?_; refine KO_nil ?_)))
  all_goals (refine K_ret ⟨_, rfl, ?_⟩)
  all_goals (refine ⟨?_, rfl⟩; rw [← e]; rfl)
theorem hon4_ok {h : AH} (a b : Int) (ha : 0 ≤ a ∧ a ≤ 100) (hb : 0 ≤ b ∧ b ≤ 100) : Fn Tryz.prog Xh 161 [.int .i64 a, .int .i64 b] h (fun v h' => v = .int .i64 (a / 2) ∧ h' = h) := by
  have e := tdiv2 ha.1
  refine Fn_K rfl Tryz.func161 rfl rfl ?_
  all_goals (repeat' (first | refine K_seq ?_ | refine k_cond rfl ?_ | refine K_skip ?_ | refine K_exit ?_ | refine k_block ?_ | refine K_scope ?_ | (refine K_region (id := 0) ?_; refine mv ?_; refine KO_nil ?_) | (refine K_region (id := 1) ?_; refine mv ?_; (first | refine qu ?_ | refine vl ?_); refine mv ?_; refine KO_nil ?_)))
  all_goals (refine K_ret ⟨_, rfl, ?_⟩)
  all_goals (refine ⟨?_, rfl⟩; rw [← e]; rfl)

/-- The seat of honour. -/
def tHon (t : Tab) : Int := honOf t.shape t.A t.B
theorem hon_lt {t : Tab} (h : TabB t) (hn : 0 < tsize t) : 0 ≤ tHon t ∧ tHon t < tsize t := by
  obtain ⟨h1, h2, h3, h4, h5, h6⟩ := h
  unfold tHon honOf honLong
  unfold tsize sizeOf1 roundSize longSize shoeSize rowSize at hn ⊢
  repeat' split
  all_goals (repeat' split at hn)
  all_goals omega

/-- The levels: the distances, with the table's size where there is none. -/
def lvl (n : Nat) (l : List Int) : List Int := l.map fun x => if x < 0 then (n : Int) else x

def mixl (n : Nat) (l : List Int) (i : Nat) : List Int := (lvl n l).take i ++ l.drop i
theorem mixl_len (n : Nat) (l : List Int) (i : Nat) (h : i ≤ l.length) : (mixl n l i).length = l.length := by simp [mixl, lvl]; omega
theorem mixl_get (n : Nat) (l : List Int) (i : Nat) (h : i < l.length) : (mixl n l i).getD i default = l.getD i default := by
  simp only [mixl, lvl, List.getD_eq_getElem?_getD]
  rw [List.getElem?_append_right (by simp; omega)]
  simp [Nat.min_eq_left (Nat.le_of_lt h)]
theorem mixl_succ (n : Nat) (l : List Int) (i : Nat) (h : i < l.length) : mixl n l (i + 1) = (mixl n l i).set i (if l.getD i default < 0 then (n : Int) else l.getD i default) := by
  have e : l.getD i default = l[i] := by simp [List.getD_eq_getElem?_getD, h]
  apply List.ext_getElem?
  intro j
  rw [List.getElem?_set]
  simp only [mixl, lvl, e]
  rcases Nat.lt_trichotomy j i with q | q | q
  · rw [if_neg (by omega), List.getElem?_append_left (by simp; omega), List.getElem?_append_left (by simp; omega)]
    rw [List.getElem?_take_of_lt (by omega), List.getElem?_take_of_lt (by omega)]
  · subst q
    rw [if_pos rfl, List.getElem?_append_left (by simp; omega)]
    rw [List.getElem?_take_of_lt (by omega)]
    simp [h]
    omega
  · rw [if_neg (by omega), List.getElem?_append_right (by simp; omega), List.getElem?_append_right (by simp; omega)]
    simp [Nat.min_eq_left (Nat.le_of_lt h), Nat.min_eq_left h]
    congr 1; omega
theorem mixl_keep (n : Nat) (l : List Int) (i : Nat) (h : i < l.length) (h2 : ¬ l.getD i default < 0) : mixl n l (i + 1) = mixl n l i := by
  rw [mixl_succ n l i h, if_neg h2]
  apply List.ext_getElem?
  intro j
  rw [List.getElem?_set]
  split
  · rename_i q
    subst q
    have := mixl_get n l i h
    have hl := mixl_len n l i (by omega)
    rw [if_pos (by omega), ← this]
    simp [List.getD_eq_getElem?_getD, hl, h]
  · rfl

theorem levels_ok {h0 : AH} (w : WfH h0) (t : Tab) (n : Nat) (ht : TabB t) (hn : tsize t = n) (hn2 : n ≤ 1000) (hn3 : 0 < n) :
    Fn Tryz.prog Xh 88 [tabV t] h0 (fun v h' => ∃ l, DistL (nearP t) n (tHon t).toNat l ∧ Hs h0 h' [.sl v 3 1 eI (lvl n l)]) := by
  have S := Hs.start w
  have hh := hon_lt ht (by omega)
  refine Fn_K rfl Tryz.func88 rfl rfl ?_
  all_goals (repeat' (first | refine K_seq ?_ | refine k_cond rfl ?_ | refine K_skip ?_ | refine K_exit ?_ | refine k_block ?_ | refine K_scope ?_ | (refine K_region (id := 0) ?_; (refine bx S ?_; clear S; intro b h S); refine mv ?_; refine KO_nil ?_) | (refine K_region (id := 1) ?_; (first | refine vl ?_ | refine fB S ?_ | refine fS S rfl rfl ?_ | refine fA ?_); (first | refine lB S rfl rfl ?_ | refine lES S rfl rfl ?_ | refine lEB S ?_ | refine lH S ?_))))
  obtain ⟨bt, hnm⟩ : ∃ x, x = b := ⟨_, rfl⟩; subst hnm
  (refine KO_fn rfl rfl rfl rfl rfl ((layoutOf_ok S.wf _).mono ?_); rintro _ h ⟨⟨rfl, hs⟩ | ⟨rfl, hs⟩ | ⟨rfl, hs⟩ | ⟨rfl, hs⟩ | ⟨rfl, hs⟩, x⟩) <;> (replace S := S.join0 x; clear x; refine mv ?_; refine vl ?_; refine vl ?_; (refine al S ?_; clear S; intro b h S); (first | (refine sB S rfl rfl ?_; clear S; intro h S) | (refine sE S rfl rfl ?_; clear S; intro h S)); refine mv ?_; refine KO_nil ?_)
  all_goals (repeat' (first | refine K_seq ?_ | refine k_cond rfl ?_ | refine K_skip ?_ | refine K_exit ?_ | refine k_block ?_ | refine K_scope ?_))
  all_goals (try (exfalso; unfold TabB at ht; omega))
  all_goals (obtain ⟨ht1, ht2, ht3, ht4, ht5, ht6⟩ := ht)
  all_goals (obtain ⟨k, hk⟩ : ∃ k : Nat, tHon t = k := ⟨(tHon t).toNat, by omega⟩)
  all_goals (refine K_drawX (id := 2) [(0, (0, 1))] [some (bt)] ?_; refine KX_cons ?_; (first | (refine lB S rfl rfl ?_ <;> refine KO_nil ⟨⟨by (first | exact True.intro | exact Or.inl rfl | exact Or.inr rfl | exact Or.inr (congrArg some (blkOf_elA _ _ _ _)) | exact ⟨Or.inl rfl, rfl⟩ | exact ⟨Or.inr rfl, rfl⟩), rfl⟩, ?_⟩) | (refine lES S rfl rfl ?_ <;> refine KO_nil ⟨⟨by (first | exact True.intro | exact Or.inl rfl | exact Or.inr rfl | exact Or.inr (congrArg some (blkOf_elA _ _ _ _)) | exact ⟨Or.inl rfl, rfl⟩ | exact ⟨Or.inr rfl, rfl⟩), rfl⟩, ?_⟩) | (refine lEB S ?_ <;> refine KO_nil ⟨⟨by (first | exact True.intro | exact Or.inl rfl | exact Or.inr rfl | exact Or.inr (congrArg some (blkOf_elA _ _ _ _)) | exact ⟨Or.inl rfl, rfl⟩ | exact ⟨Or.inr rfl, rfl⟩), rfl⟩, ?_⟩) | (refine lH S ?_ <;> refine KO_nil ⟨⟨by (first | exact True.intro | exact Or.inl rfl | exact Or.inr rfl | exact Or.inr (congrArg some (blkOf_elA _ _ _ _)) | exact ⟨Or.inl rfl, rfl⟩ | exact ⟨Or.inr rfl, rfl⟩), rfl⟩, ?_⟩)); refine KX_cons ?_; (first | (refine vl ?_ <;> refine KO_nil ⟨⟨by (first | exact True.intro | exact Or.inl rfl | exact Or.inr rfl | exact Or.inr (congrArg some (blkOf_elA _ _ _ _)) | exact ⟨Or.inl rfl, rfl⟩ | exact ⟨Or.inr rfl, rfl⟩), rfl⟩, ?_⟩) | (refine fB S ?_ <;> refine KO_nil ⟨⟨by (first | exact True.intro | exact Or.inl rfl | exact Or.inr rfl | exact Or.inr (congrArg some (blkOf_elA _ _ _ _)) | exact ⟨Or.inl rfl, rfl⟩ | exact ⟨Or.inr rfl, rfl⟩), rfl⟩, ?_⟩) | (refine fS S rfl rfl ?_ <;> refine KO_nil ⟨⟨by (first | exact True.intro | exact Or.inl rfl | exact Or.inr rfl | exact Or.inr (congrArg some (blkOf_elA _ _ _ _)) | exact ⟨Or.inl rfl, rfl⟩ | exact ⟨Or.inr rfl, rfl⟩), rfl⟩, ?_⟩) | (refine fA ?_ <;> refine KO_nil ⟨⟨by (first | exact True.intro | exact Or.inl rfl | exact Or.inr rfl | exact Or.inr (congrArg some (blkOf_elA _ _ _ _)) | exact ⟨Or.inl rfl, rfl⟩ | exact ⟨Or.inr rfl, rfl⟩), rfl⟩, ?_⟩)); refine KX_cons ?_; (first | (refine lB S rfl rfl ?_ <;> refine KO_nil ⟨⟨by (first | exact True.intro | exact Or.inl rfl | exact Or.inr rfl | exact Or.inr (congrArg some (blkOf_elA _ _ _ _)) | exact ⟨Or.inl rfl, rfl⟩ | exact ⟨Or.inr rfl, rfl⟩), rfl⟩, ?_⟩) | (refine lES S rfl rfl ?_ <;> refine KO_nil ⟨⟨by (first | exact True.intro | exact Or.inl rfl | exact Or.inr rfl | exact Or.inr (congrArg some (blkOf_elA _ _ _ _)) | exact ⟨Or.inl rfl, rfl⟩ | exact ⟨Or.inr rfl, rfl⟩), rfl⟩, ?_⟩) | (refine lEB S ?_ <;> refine KO_nil ⟨⟨by (first | exact True.intro | exact Or.inl rfl | exact Or.inr rfl | exact Or.inr (congrArg some (blkOf_elA _ _ _ _)) | exact ⟨Or.inl rfl, rfl⟩ | exact ⟨Or.inr rfl, rfl⟩), rfl⟩, ?_⟩) | (refine lH S ?_ <;> refine KO_nil ⟨⟨by (first | exact True.intro | exact Or.inl rfl | exact Or.inr rfl | exact Or.inr (congrArg some (blkOf_elA _ _ _ _)) | exact ⟨Or.inl rfl, rfl⟩ | exact ⟨Or.inr rfl, rfl⟩), rfl⟩, ?_⟩)); refine KX_cons ?_; (first | (refine vl ?_ <;> refine KO_nil ⟨⟨by (first | exact True.intro | exact Or.inl rfl | exact Or.inr rfl | exact Or.inr (congrArg some (blkOf_elA _ _ _ _)) | exact ⟨Or.inl rfl, rfl⟩ | exact ⟨Or.inr rfl, rfl⟩), rfl⟩, ?_⟩) | (refine fB S ?_ <;> refine KO_nil ⟨⟨by (first | exact True.intro | exact Or.inl rfl | exact Or.inr rfl | exact Or.inr (congrArg some (blkOf_elA _ _ _ _)) | exact ⟨Or.inl rfl, rfl⟩ | exact ⟨Or.inr rfl, rfl⟩), rfl⟩, ?_⟩) | (refine fS S rfl rfl ?_ <;> refine KO_nil ⟨⟨by (first | exact True.intro | exact Or.inl rfl | exact Or.inr rfl | exact Or.inr (congrArg some (blkOf_elA _ _ _ _)) | exact ⟨Or.inl rfl, rfl⟩ | exact ⟨Or.inr rfl, rfl⟩), rfl⟩, ?_⟩) | (refine fA ?_ <;> refine KO_nil ⟨⟨by (first | exact True.intro | exact Or.inl rfl | exact Or.inr rfl | exact Or.inr (congrArg some (blkOf_elA _ _ _ _)) | exact ⟨Or.inl rfl, rfl⟩ | exact ⟨Or.inr rfl, rfl⟩), rfl⟩, ?_⟩)); refine KX_cons ?_; (first | (refine lB S rfl rfl ?_ <;> refine KO_nil ⟨⟨by (first | exact True.intro | exact Or.inl rfl | exact Or.inr rfl | exact Or.inr (congrArg some (blkOf_elA _ _ _ _)) | exact ⟨Or.inl rfl, rfl⟩ | exact ⟨Or.inr rfl, rfl⟩), rfl⟩, ?_⟩) | (refine lES S rfl rfl ?_ <;> refine KO_nil ⟨⟨by (first | exact True.intro | exact Or.inl rfl | exact Or.inr rfl | exact Or.inr (congrArg some (blkOf_elA _ _ _ _)) | exact ⟨Or.inl rfl, rfl⟩ | exact ⟨Or.inr rfl, rfl⟩), rfl⟩, ?_⟩) | (refine lEB S ?_ <;> refine KO_nil ⟨⟨by (first | exact True.intro | exact Or.inl rfl | exact Or.inr rfl | exact Or.inr (congrArg some (blkOf_elA _ _ _ _)) | exact ⟨Or.inl rfl, rfl⟩ | exact ⟨Or.inr rfl, rfl⟩), rfl⟩, ?_⟩) | (refine lH S ?_ <;> refine KO_nil ⟨⟨by (first | exact True.intro | exact Or.inl rfl | exact Or.inr rfl | exact Or.inr (congrArg some (blkOf_elA _ _ _ _)) | exact ⟨Or.inl rfl, rfl⟩ | exact ⟨Or.inr rfl, rfl⟩), rfl⟩, ?_⟩)); refine KX_cons ?_; (first | (refine vl ?_ <;> refine KO_nil ⟨⟨by (first | exact True.intro | exact Or.inl rfl | exact Or.inr rfl | exact Or.inr (congrArg some (blkOf_elA _ _ _ _)) | exact ⟨Or.inl rfl, rfl⟩ | exact ⟨Or.inr rfl, rfl⟩), rfl⟩, ?_⟩) | (refine fB S ?_ <;> refine KO_nil ⟨⟨by (first | exact True.intro | exact Or.inl rfl | exact Or.inr rfl | exact Or.inr (congrArg some (blkOf_elA _ _ _ _)) | exact ⟨Or.inl rfl, rfl⟩ | exact ⟨Or.inr rfl, rfl⟩), rfl⟩, ?_⟩) | (refine fS S rfl rfl ?_ <;> refine KO_nil ⟨⟨by (first | exact True.intro | exact Or.inl rfl | exact Or.inr rfl | exact Or.inr (congrArg some (blkOf_elA _ _ _ _)) | exact ⟨Or.inl rfl, rfl⟩ | exact ⟨Or.inr rfl, rfl⟩), rfl⟩, ?_⟩) | (refine fA ?_ <;> refine KO_nil ⟨⟨by (first | exact True.intro | exact Or.inl rfl | exact Or.inr rfl | exact Or.inr (congrArg some (blkOf_elA _ _ _ _)) | exact ⟨Or.inl rfl, rfl⟩ | exact ⟨Or.inr rfl, rfl⟩), rfl⟩, ?_⟩)); refine KX_cons ?_; (first | (refine lB S rfl rfl ?_ <;> refine KO_nil ⟨⟨by (first | exact True.intro | exact Or.inl rfl | exact Or.inr rfl | exact Or.inr (congrArg some (blkOf_elA _ _ _ _)) | exact ⟨Or.inl rfl, rfl⟩ | exact ⟨Or.inr rfl, rfl⟩), rfl⟩, ?_⟩) | (refine lES S rfl rfl ?_ <;> refine KO_nil ⟨⟨by (first | exact True.intro | exact Or.inl rfl | exact Or.inr rfl | exact Or.inr (congrArg some (blkOf_elA _ _ _ _)) | exact ⟨Or.inl rfl, rfl⟩ | exact ⟨Or.inr rfl, rfl⟩), rfl⟩, ?_⟩) | (refine lEB S ?_ <;> refine KO_nil ⟨⟨by (first | exact True.intro | exact Or.inl rfl | exact Or.inr rfl | exact Or.inr (congrArg some (blkOf_elA _ _ _ _)) | exact ⟨Or.inl rfl, rfl⟩ | exact ⟨Or.inr rfl, rfl⟩), rfl⟩, ?_⟩) | (refine lH S ?_ <;> refine KO_nil ⟨⟨by (first | exact True.intro | exact Or.inl rfl | exact Or.inr rfl | exact Or.inr (congrArg some (blkOf_elA _ _ _ _)) | exact ⟨Or.inl rfl, rfl⟩ | exact ⟨Or.inr rfl, rfl⟩), rfl⟩, ?_⟩)))
  any_goals (((refine KX_cons ?_; first | refine KO_call rfl rfl rfl rfl ((hon1_ok t.A t.B).mono ?_) | refine KO_call rfl rfl rfl rfl ((hon2_ok t.A t.B ⟨ht3, ht4⟩ ⟨ht5, ht6⟩).mono ?_) | refine KO_call rfl rfl rfl rfl ((hon3_ok t.A t.B ⟨ht3, ht4⟩ ⟨ht5, ht6⟩).mono ?_) | refine KO_call rfl rfl rfl rfl ((hon4_ok t.A t.B ⟨ht3, ht4⟩ ⟨ht5, ht6⟩).mono ?_)); rintro v2 _ ⟨e, rfl⟩) <;> ((refine KO_nil ⟨⟨True.intro, ?_⟩, ?_⟩; (focus ((show keepsX _ _ _ _ _; simp only [keepsX]; (repeat' (first | exact True.intro | refine And.intro ?_ ?_)); all_goals (intro hw; first | exact True.intro | exact rfl | exact x.ext.old _ S.bB | exact x.ext.old _ (S.bR (by first | omega | grind)) | exact x.ext.old _ (S.bX (by assumption) (by assumption) (by first | omega | grind)) | (refine x.ext.old _ ?_; assumption) | exact absurd hw (by decide +kernel)))))); obtain rfl : v2 = .int .i64 (k : Int) := by rw [e, ← hk]; simp [tHon, honOf, hs]))
  any_goals (((refine KX_cons ?_; first | refine KO_fn rfl rfl rfl rfl rfl ((steps_ok S.wf t k n ⟨ht1, ht2, ht3, ht4, ht5, ht6⟩ hn hn2 (by omega)).mono ?_)); rintro v h ⟨l, hl, x⟩) <;> ((refine KO_nil ⟨⟨True.intro, ?_⟩, ?_⟩; (focus ((show keepsX _ _ _ _ _; simp only [keepsX]; (repeat' (first | exact True.intro | refine And.intro ?_ ?_)); all_goals (intro hw; first | exact True.intro | exact rfl | exact x.ext.old _ S.bB | exact x.ext.old _ (S.bR (by first | omega | grind)) | exact x.ext.old _ (S.bX (by assumption) (by assumption) (by first | omega | grind)) | (refine x.ext.old _ ?_; assumption) | exact absurd hw (by decide +kernel)))))); replace S := S.join1 x; clear x; refine KX_cons ?_; (first | (refine mv ?_ <;> refine KO_nil ⟨⟨by (first | exact True.intro | exact Or.inl rfl | exact Or.inr rfl | exact Or.inr (congrArg some (blkOf_elA _ _ _ _)) | exact ⟨Or.inl rfl, rfl⟩ | exact ⟨Or.inr rfl, rfl⟩), rfl⟩, ?_⟩)); refine KX_nil ?_))
  all_goals (rw [hk, Int.toNat_natCast])
  all_goals (repeat' (first | refine K_seq ?_ | refine k_cond rfl ?_ | refine K_skip ?_ | refine K_exit ?_ | refine k_block ?_ | refine K_scope ?_ | (refine K_region (id := 3) ?_; refine mv ?_; (first | refine lnB S ?_ | refine lnS S rfl rfl ?_); refine mv ?_; refine KO_nil ?_)))
  all_goals
    have hlen := hl.1
    replace S := S.del (.there .here)
    clear e
    refine k_loop (σ := Nat) (fun i h' => Hs h0 h' [.sl v 3 1 eI (mixl n l i), .blk bt (tabV t).cells.toList 25] ∧ i ≤ n) (fun i => n - i) (fun i => [(1, .pointer (some ⟨bt, 0, none⟩)), (5, v), (23, v), (24, .int .i64 n), (25, .int .i64 i)]) 0 (by repeat (first | exact Ks.le_nil _ | refine Ks.le_cons rfl ?_ | refine Ks.le_int ?_)) ?_ ?_
    · refine ⟨?_, Nat.zero_le _⟩
      have : mixl n l 0 = l := by simp [mixl]
      rw [this]; exact S
    clear S
    rintro i h ⟨S, h1⟩
    have hm := mixl_len n l i (by omega)
    all_goals (repeat' (first | refine K_seq ?_ | refine k_cond rfl ?_ | refine K_skip ?_ | refine K_exit ?_ | refine k_block ?_ | refine K_scope ?_ | (refine K_region (id := 4) ?_; (first | refine cT ?_ | refine cF ?_ | (refine cS ?_ ?_ <;> intro hc)) <;> (refine KO_nil ?_)) | (refine K_region (id := 5) ?_; refine mv ?_; (first | refine ixB S ?_ | refine ixS S rfl rfl ?_); (first | refine lB S rfl rfl ?_ | refine lES S rfl rfl ?_ | refine lEB S ?_ | refine lH S ?_); refine mv ?_; refine mv ?_; refine KO_nil ?_) | (refine K_region (id := 6) ?_; refine mv ?_; (first | refine cT ?_ | refine cF ?_ | (refine cS ?_ ?_ <;> intro hc)) <;> (refine KO_nil ?_)) | (refine K_region (id := 7) ?_; refine mv ?_; refine mv ?_; refine mv ?_; (first | refine lnB S ?_ | refine lnS S rfl rfl ?_); (first | refine ixB S ?_ | refine ixS S rfl rfl ?_); (first | (refine sB S rfl rfl ?_; clear S; intro h S) | (refine sE S rfl rfl ?_; clear S; intro h S)); refine KO_nil ?_) | (refine K_region (id := 8) ?_; (first | refine ad ?_ | refine vl ?_); refine mv ?_; refine KO_nil ?_) | (refine K_region (id := 9) ?_; refine mv ?_; refine mv ?_; refine KO_nil ?_)))
    · refine ⟨i + 1, ?_, ?_, (by repeat (first | exact Ks.le_nil _ | refine Ks.le_cons rfl ?_ | refine Ks.le_int ?_))⟩
      · show n - (i + 1) < n - i; omega
      · simp only [Int.toNat_natCast] at hc S
        have hi : i < n := by omega
        rw [mixl_get n l i (by omega)] at hc
        have := mixl_succ n l i (by omega)
        rw [if_pos hc] at this
        refine ⟨?_, by omega⟩
        rw [this]
        have : ((mixl n l i).length : Int) = n := by omega
        rw [this] at S
        exact S
    · refine ⟨i + 1, ?_, ?_, (by repeat (first | exact Ks.le_nil _ | refine Ks.le_cons rfl ?_ | refine Ks.le_int ?_))⟩
      · show n - (i + 1) < n - i; omega
      · simp only [Int.toNat_natCast] at hc
        rw [mixl_get n l i (by omega)] at hc
        refine ⟨?_, by omega⟩
        rw [mixl_keep n l i (by omega) hc]
        exact S
    refine K_ret ⟨_, rfl, ?_⟩
    have hi : i = n := by omega
    refine ⟨l, hl, ?_⟩
    have : mixl n l i = lvl n l := by unfold mixl; rw [List.take_of_length_le (by simp [lvl]; omega), List.drop_eq_nil_of_le (by omega)]; simp
    rw [← this]
    exact S.del (.there .here)
end Go.Proofs.Xx

/-
  Names; the check of a table, the program's and the reference's.
-/
namespace Go.Proofs.Xx
open Go Go.Proofs
set_option linter.unusedSimpArgs false
set_option linter.unusedVariables false
set_option maxRecDepth 100000

def lowB (x : UInt8) : Prop := 97 ≤ x.toNat ∧ x.toNat ≤ 122
def nameP (s : List UInt8) : Prop := 1 ≤ s.length ∧ s.length ≤ 12 ∧ ∀ i, i < s.length → lowB (s.getD i default)

theorem name_ok {h0 : AH} (w : WfH h0) (s : List UInt8) (hs : s.length ≤ 1000) : Fn Tryz.prog Xh 114 [str s] h0 (fun v h' => BoolIs v (nameP s) ∧ Hs h0 h' []) := by
  have S := Hs.start w
  refine Fn_K rfl Tryz.func114 rfl rfl ?_
  all_goals (repeat' (first | refine K_seq ?_ | refine k_cond rfl ?_ | refine K_skip ?_ | refine K_exit ?_ | refine k_block ?_ | refine K_scope ?_ | (refine K_region (id := 0) ?_; refine mv ?_; refine KO_nil ?_) | (refine K_region (id := 1) ?_; refine mv ?_; refine KO_nil ?_)))
  refine k_loop (σ := Nat) (fun i h' => Hs h0 h' [] ∧ i ≤ s.length ∧ ∀ j, j < i → lowB (s.getD j default)) (fun i => s.length - i) (fun i => [(0, str s), (3, .int .i64 i)]) 0 (by repeat (first | exact Ks.le_nil _ | refine Ks.le_cons rfl ?_ | refine Ks.le_int ?_)) ?_ ?_
  · exact ⟨S, Nat.zero_le _, fun j hj => absurd hj (Nat.not_lt_zero _)⟩
  clear S
  rintro i h ⟨S, h1, h2⟩
  all_goals (repeat' (first | refine K_seq ?_ | refine k_cond rfl ?_ | refine K_skip ?_ | refine K_exit ?_ | refine k_block ?_ | refine K_scope ?_ | (refine K_region (id := 2) ?_; refine mv ?_; refine mv ?_; refine tl ?_; (first | refine cT ?_ | refine cF ?_ | (refine cS ?_ ?_ <;> intro hc)) <;> (refine KO_nil ?_)) | (refine K_region (id := 3) ?_; refine mv ?_; (first | refine ad ?_ | refine vl ?_); refine mv ?_; refine KO_nil ?_) | (refine K_region (id := 4) ?_; refine mv ?_; refine mv ?_; (first | refine ti ?_ | refine vl ?_); (first | refine cT ?_ | refine cF ?_ | (refine cS ?_ ?_ <;> intro hc)) <;> (refine mv ?_; (first | refine off ?_ | refine mv ?_); (first | refine off ?_ | refine mv ?_); (first | refine off ?_ | (first | refine ti ?_ | refine vl ?_)); (first | refine off ?_ | (first | refine cT ?_ | refine cF ?_ | (refine cS ?_ ?_ <;> intro hc))) <;> (refine vl ?_; refine KO_nil ?_))) | (refine K_region (id := 5) ?_; refine mv ?_; refine KO_nil ?_) | (refine K_region (id := 6) ?_; refine mv ?_; refine tl ?_; (first | refine cT ?_ | refine cF ?_ | (refine cS ?_ ?_ <;> intro hc)) <;> (refine mv ?_; (first | refine off ?_ | refine mv ?_); (first | refine off ?_ | refine tl ?_); (first | refine off ?_ | (first | refine cT ?_ | refine cF ?_ | (refine cS ?_ ?_ <;> intro hc))) <;> (refine vl ?_; refine mv ?_; refine KO_nil ?_)))))
  all_goals (try simp only [Int.toNat_natCast] at *)
  · refine K_ret ⟨_, rfl, ?_⟩
    exact ⟨.inr ⟨rfl, fun q => by have := q.2.2 i (by omega); unfold lowB at this; simp only [show (default : UInt8) = 0 from rfl] at this; omega⟩, S.drop⟩
  · refine K_ret ⟨_, rfl, ?_⟩
    exact ⟨.inr ⟨rfl, fun q => by have := q.2.2 i (by omega); unfold lowB at this; simp only [show (default : UInt8) = 0 from rfl] at this; omega⟩, S.drop⟩
  · refine ⟨i + 1, ?_, ?_, (by repeat (first | exact Ks.le_nil _ | refine Ks.le_cons rfl ?_ | refine Ks.le_int ?_))⟩
    · show s.length - (i + 1) < s.length - i; omega
    · refine ⟨S, by omega, fun j hj => ?_⟩
      rcases Nat.lt_or_ge j i with q | q
      · exact h2 j q
      · have e : j = i := by omega
        subst e
        unfold lowB
        simp only [show (default : UInt8) = 0 from rfl]
        omega
  all_goals (refine K_ret ⟨_, rfl, ?_⟩)
  all_goals refine ⟨?_, S.drop⟩
  · exact .inl ⟨rfl, by omega, by omega, fun j hj => h2 j (by omega)⟩
  · exact .inr ⟨rfl, fun q => by have := q.2.1; omega⟩
  · exact .inr ⟨rfl, fun q => by have := q.1; omega⟩

theorem refName_ok {h0 : AH} (w : WfH h0) (s : List UInt8) (hs : s.length ≤ 1000) : Fn Tryz.prog Xh 123 [str s] h0 (fun v h' => BoolIs v (nameP s) ∧ Hs h0 h' []) := by
  have S := Hs.start w
  refine Fn_K rfl Tryz.func123 rfl rfl ?_
  all_goals (repeat' (first | refine K_seq ?_ | refine k_cond rfl ?_ | refine K_skip ?_ | refine K_exit ?_ | refine k_block ?_ | refine K_scope ?_ | (refine K_region (id := 0) ?_; refine mv ?_; refine KO_nil ?_) | (refine K_region (id := 1) ?_; refine mv ?_; refine tl ?_; (first | refine cT ?_ | refine cF ?_ | (refine cS ?_ ?_ <;> intro hc)) <;> (refine mv ?_; (first | refine off ?_ | refine mv ?_); (first | refine off ?_ | refine tl ?_); (first | refine off ?_ | (first | refine cT ?_ | refine cF ?_ | (refine cS ?_ ?_ <;> intro hc))) <;> (refine vl ?_; refine KO_nil ?_))) | (refine K_region (id := 2) ?_; refine mv ?_; refine KO_nil ?_) | (refine K_region (id := 3) ?_; refine mv ?_; refine KO_nil ?_)))
  · refine K_ret ⟨_, rfl, ?_⟩
    exact ⟨.inr ⟨rfl, fun q => by have := q.1; omega⟩, S.drop⟩
  · refine K_ret ⟨_, rfl, ?_⟩
    exact ⟨.inr ⟨rfl, fun q => by have := q.2.1; omega⟩, S.drop⟩
  rename_i hc1
  refine k_loop (σ := Nat) (fun i h' => Hs h0 h' [] ∧ i ≤ s.length ∧ ∀ j, j < i → lowB (s.getD j default)) (fun i => s.length - i) (fun i => [(0, str s), (3, .int .i64 i)]) 0 (by repeat (first | exact Ks.le_nil _ | refine Ks.le_cons rfl ?_ | refine Ks.le_int ?_)) ?_ ?_
  · exact ⟨S, Nat.zero_le _, fun j hj => absurd hj (Nat.not_lt_zero _)⟩
  clear S
  rintro i h ⟨S, h1, h2⟩
  all_goals (repeat' (first | refine K_seq ?_ | refine k_cond rfl ?_ | refine K_skip ?_ | refine K_exit ?_ | refine k_block ?_ | refine K_scope ?_ | (refine K_region (id := 4) ?_; refine mv ?_; refine mv ?_; refine tl ?_; (first | refine cT ?_ | refine cF ?_ | (refine cS ?_ ?_ <;> intro hc)) <;> (refine KO_nil ?_)) | (refine K_region (id := 5) ?_; refine mv ?_; (first | refine ad ?_ | refine vl ?_); refine mv ?_; refine KO_nil ?_) | (refine K_region (id := 6) ?_; refine mv ?_; refine mv ?_; (first | refine ti ?_ | refine vl ?_); (first | refine cT ?_ | refine cF ?_ | (refine cS ?_ ?_ <;> intro hc)) <;> (refine mv ?_; (first | refine off ?_ | refine mv ?_); (first | refine off ?_ | refine mv ?_); (first | refine off ?_ | (first | refine ti ?_ | refine vl ?_)); (first | refine off ?_ | (first | refine cT ?_ | refine cF ?_ | (refine cS ?_ ?_ <;> intro hc))) <;> (refine vl ?_; refine KO_nil ?_))) | (refine K_region (id := 7) ?_; refine mv ?_; refine KO_nil ?_) | (refine K_region (id := 8) ?_; refine mv ?_; refine KO_nil ?_)))
  all_goals (try simp only [Int.toNat_natCast] at *)
  · refine K_ret ⟨_, rfl, ?_⟩
    exact ⟨.inr ⟨rfl, fun q => by have := q.2.2 i (by omega); unfold lowB at this; simp only [show (default : UInt8) = 0 from rfl] at this; omega⟩, S.drop⟩
  · refine K_ret ⟨_, rfl, ?_⟩
    exact ⟨.inr ⟨rfl, fun q => by have := q.2.2 i (by omega); unfold lowB at this; simp only [show (default : UInt8) = 0 from rfl] at this; omega⟩, S.drop⟩
  · refine ⟨i + 1, ?_, ?_, (by repeat (first | exact Ks.le_nil _ | refine Ks.le_cons rfl ?_ | refine Ks.le_int ?_))⟩
    · show s.length - (i + 1) < s.length - i; omega
    · refine ⟨S, by omega, fun j hj => ?_⟩
      rcases Nat.lt_or_ge j i with q | q
      · exact h2 j q
      · have e : j = i := by omega
        subst e
        unfold lowB
        simp only [show (default : UInt8) = 0 from rfl]
        omega
  all_goals (refine K_ret ⟨_, rfl, ?_⟩)
  exact ⟨.inl ⟨rfl, by omega, by omega, fun j hj => h2 j (by omega)⟩, S.drop⟩
end Go.Proofs.Xx

/-
  The check of a table, the program's and the reference's.
-/
namespace Go.Proofs.Xx
open Go Go.Proofs
set_option linter.unusedSimpArgs false
set_option linter.unusedVariables false
set_option maxRecDepth 100000

/-- The open seats stand in order, and each is a seat. -/
def OpnOk (n : Int) (l : List Int) : Prop := ∀ i, i < l.length → (0 ≤ l.getD i default ∧ l.getD i default < n) ∧ (0 < i → l.getD (i - 1) default < l.getD i default)
def XYok (t : Tab) : Prop := 0 ≤ t.X ∧ t.X ≤ 1000 ∧ 0 ≤ t.Y ∧ t.Y ≤ 1000
open Classical in
noncomputable def chk (t : Tab) : Int := if ¬ nameP t.name then 4 else if tsize t = 0 then 10 else if ¬ OpnOk (tsize t) t.opn then 11 else if ¬ XYok t then 2 else 0
/-- What a table's list of open seats reads as. -/
abbrev TabR (h : AH) (t : Tab) : Prop := RdL h t.ov 1 eI t.opn ∧ t.name.length ≤ 1000 ∧ t.opn.length ≤ 1000

theorem check_ok {h0 : AH} (w : WfH h0) (t : Tab) (r : TabR h0 t) : Fn Tryz.prog Xh 56 [tabV t] h0 (fun v h' => v = .int .i64 (chk t) ∧ Hs h0 h' []) := by
  have S := Hs.start w
  obtain ⟨hr, hnm, hol⟩ := r
  refine Fn_K rfl Tryz.func56 rfl rfl ?_
  all_goals (repeat' (first | refine K_seq ?_ | refine k_cond rfl ?_ | refine K_skip ?_ | refine K_exit ?_ | refine k_block ?_ | refine K_scope ?_ | (refine K_region (id := 0) ?_; (refine bx S ?_; clear S; intro b h S); refine mv ?_; refine KO_nil ?_) | (refine K_region (id := 1) ?_; (first | refine lB S rfl rfl ?_ | refine lES S rfl rfl ?_ | refine lEB S ?_ | refine lH S ?_))))
  (refine KO_fn rfl rfl rfl rfl rfl ((size_ok S.wf t).mono ?_); rintro _ h ⟨rfl, x⟩) <;> (replace S := S.join0 x; clear x; refine mv ?_; refine KO_nil ?_)
  all_goals (repeat' (first | refine K_seq ?_ | refine k_cond rfl ?_ | refine K_skip ?_ | refine K_exit ?_ | refine k_block ?_ | refine K_scope ?_ | (refine K_region (id := 2) ?_; refine mv ?_; refine KO_nil ?_) | (refine K_region (id := 3) ?_; (first | refine vl ?_ | refine fB S ?_ | refine fS S rfl rfl ?_ | refine fA ?_); (first | refine lB S rfl rfl ?_ | refine lES S rfl rfl ?_ | refine lEB S ?_ | refine lH S ?_))))
  (refine KO_fn rfl rfl rfl rfl rfl ((name_ok S.wf t.name hnm).mono ?_); rintro _ h ⟨⟨rfl, hq⟩ | ⟨rfl, hq⟩, x⟩) <;> (replace S := S.join0 x; clear x; refine vl ?_; refine mv ?_; refine KO_nil ?_)
  all_goals (repeat' (first | refine K_seq ?_ | refine k_cond rfl ?_ | refine K_skip ?_ | refine K_exit ?_ | refine k_block ?_ | refine K_scope ?_ | (refine K_region (id := 4) ?_; refine mv ?_; refine KO_nil ?_) | (refine K_region (id := 5) ?_; refine mv ?_; (first | refine cT ?_ | refine cF ?_ | (refine cS ?_ ?_ <;> intro hc)) <;> (refine mv ?_; refine KO_nil ?_)) | (refine K_region (id := 6) ?_; refine mv ?_; refine KO_nil ?_) | (refine K_region (id := 7) ?_; (first | refine vl ?_ | refine fB S ?_ | refine fS S rfl rfl ?_ | refine fA ?_); (first | refine lB S rfl rfl ?_ | refine lES S rfl rfl ?_ | refine lEB S ?_ | refine lH S ?_); (first | refine lnB S ?_ | refine lnS S rfl rfl ?_); refine mv ?_; refine KO_nil ?_)))
  · refine K_ret ⟨_, rfl, ?_⟩
    exact ⟨by unfold chk; rw [if_neg (by simpa using hq), if_pos hc]; rfl, S.drop⟩
  · refine k_loop (σ := Nat × Int) (fun (i, la) h' => Hs h0 h' [.blk b (tabV t).cells.toList 25] ∧ i ≤ t.opn.length ∧ (∀ j, j < i → (0 ≤ t.opn.getD j default ∧ t.opn.getD j default < tsize t) ∧ (0 < j → t.opn.getD (j - 1) default < t.opn.getD j default)) ∧ (la = if i = 0 then -1 else t.opn.getD (i - 1) default)) (fun (i, la) => t.opn.length - i) (fun (i, la) => [(1, .pointer (some ⟨b, 0, none⟩)), (3, .int .i64 (tsize t)), (4, .int .i64 la), (18, t.ov), (19, .int .i64 t.opn.length), (20, .int .i64 i)]) (0, -1) (by repeat (first | exact Ks.le_nil _ | refine Ks.le_cons rfl ?_ | refine Ks.le_int ?_)) ?_ ?_
    · exact ⟨S, Nat.zero_le _, fun j hj => absurd hj (Nat.not_lt_zero _), rfl⟩
    clear S
    rintro ⟨i, la⟩ h ⟨S, h1, h2, h3⟩
    all_goals (repeat' (first | refine K_seq ?_ | refine k_cond rfl ?_ | refine K_skip ?_ | refine K_exit ?_ | refine k_block ?_ | refine K_scope ?_ | (refine K_region (id := 8) ?_; (first | refine cT ?_ | refine cF ?_ | (refine cS ?_ ?_ <;> intro hc)) <;> (refine KO_nil ?_)) | (refine K_region (id := 9) ?_; (first | refine ixB S ?_ | refine ixS S rfl rfl ?_); (first | refine lB S rfl rfl ?_ | refine lES S rfl rfl ?_ | refine lEB S ?_ | refine lH S ?_); refine mv ?_; refine KO_nil ?_) | (refine K_region (id := 10) ?_; refine mv ?_; refine mv ?_; (first | refine cT ?_ | refine cF ?_ | (refine cS ?_ ?_ <;> intro hc)) <;> (refine mv ?_; (first | refine off ?_ | refine mv ?_); (first | refine off ?_ | refine mv ?_); (first | refine off ?_ | (first | refine cT ?_ | refine cF ?_ | (refine cS ?_ ?_ <;> intro hc))) <;> (refine vl ?_; refine KO_nil ?_))) | (refine K_region (id := 11) ?_; refine mv ?_; refine KO_nil ?_) | (refine K_region (id := 12) ?_; refine mv ?_; refine mv ?_; refine KO_nil ?_) | (refine K_region (id := 13) ?_; (first | refine ad ?_ | refine vl ?_); refine mv ?_; refine KO_nil ?_) | (refine K_region (id := 14) ?_; (first | refine vl ?_ | refine fB S ?_ | refine fS S rfl rfl ?_ | refine fA ?_); (first | refine lB S rfl rfl ?_ | refine lES S rfl rfl ?_ | refine lEB S ?_ | refine lH S ?_); (first | refine cT ?_ | refine cF ?_ | (refine cS ?_ ?_ <;> intro hc)) <;> (refine mv ?_; (first | refine off ?_ | (first | refine vl ?_ | refine fB S ?_ | refine fS S rfl rfl ?_ | refine fA ?_)); (first | refine off ?_ | (first | refine lB S rfl rfl ?_ | refine lES S rfl rfl ?_ | refine lEB S ?_ | refine lH S ?_)); (first | refine off ?_ | (first | refine cT ?_ | refine cF ?_ | (refine cS ?_ ?_ <;> intro hc))) <;> (refine vl ?_; refine mv ?_; (first | refine off ?_ | (first | refine vl ?_ | refine fB S ?_ | refine fS S rfl rfl ?_ | refine fA ?_)); (first | refine off ?_ | (first | refine lB S rfl rfl ?_ | refine lES S rfl rfl ?_ | refine lEB S ?_ | refine lH S ?_)); (first | refine off ?_ | (first | refine cT ?_ | refine cF ?_ | (refine cS ?_ ?_ <;> intro hc))) <;> (refine vl ?_; refine mv ?_; (first | refine off ?_ | (first | refine vl ?_ | refine fB S ?_ | refine fS S rfl rfl ?_ | refine fA ?_)); (first | refine off ?_ | (first | refine lB S rfl rfl ?_ | refine lES S rfl rfl ?_ | refine lEB S ?_ | refine lH S ?_)); (first | refine off ?_ | (first | refine cT ?_ | refine cF ?_ | (refine cS ?_ ?_ <;> intro hc))) <;> (refine vl ?_; refine KO_nil ?_))))) | (refine K_region (id := 15) ?_; refine mv ?_; refine KO_nil ?_) | (refine K_region (id := 16) ?_; refine mv ?_; refine KO_nil ?_)))
    all_goals (try simp only [Int.toNat_natCast] at *)
    · refine K_ret ⟨_, rfl, ?_⟩
      refine ⟨?_, S.drop⟩
      have : ¬ OpnOk (tsize t) t.opn := fun q => by
        have q1 := q i (by omega)
        split at h3 <;> rename_i hi
        · subst hi; omega
        · have := q1.2 (by omega); omega
      unfold chk; rw [if_neg (by simpa using hq), if_neg (by assumption), if_pos this]; rfl
    · refine K_ret ⟨_, rfl, ?_⟩
      refine ⟨?_, S.drop⟩
      have : ¬ OpnOk (tsize t) t.opn := fun q => by have q1 := q i (by omega); omega
      unfold chk; rw [if_neg (by simpa using hq), if_neg (by assumption), if_pos this]; rfl
    · refine ⟨(i + 1, t.opn.getD i default), ?_, ?_, (by repeat (first | exact Ks.le_nil _ | refine Ks.le_cons rfl ?_ | refine Ks.le_int ?_))⟩
      · show t.opn.length - (i + 1) < t.opn.length - i; omega
      · refine ⟨S, by omega, fun j hj => ?_, by simp⟩
        rcases Nat.lt_or_ge j i with q | q
        · exact h2 j q
        · have e : j = i := by omega
          subst e
          split at h3 <;> rename_i hi
          · exact ⟨by omega, fun q => by omega⟩
          · have := (h2 (j - 1) (by omega)).1
            exact ⟨by omega, fun q => by omega⟩
    all_goals
      have hok : OpnOk (tsize t) t.opn := fun j hj => h2 j (by omega)
      refine K_ret ⟨_, rfl, ?_⟩
      refine ⟨?_, S.drop⟩
      unfold chk; rw [if_neg (by simpa using hq), if_neg (by assumption), if_neg (by simpa using hok)]
      first
        | (rw [if_pos (by unfold XYok; omega)]; rfl)
        | (rw [if_neg (by unfold XYok; omega)]; rfl)
  · refine K_ret ⟨_, rfl, ?_⟩
    exact ⟨by unfold chk; rw [if_pos (by simpa using hq)]; rfl, S.drop⟩
end Go.Proofs.Xx

/-
  The reference's size and check of a table.
-/
namespace Go.Proofs.Xx
open Go Go.Proofs
set_option linter.unusedSimpArgs false
set_option linter.unusedVariables false
set_option maxRecDepth 100000

theorem within_ok {h : AH} (n a b : Int) : Fn Tryz.prog Xh 106 [.int .i64 n, .int .i64 a, .int .i64 b] h (fun v h' => BoolIs v (a ≤ n ∧ n ≤ b) ∧ h' = h) := by
  refine Fn_K rfl Tryz.func106 rfl rfl ?_
  all_goals (repeat' (first | refine K_seq ?_ | refine k_cond rfl ?_ | refine K_skip ?_ | refine K_exit ?_ | refine k_block ?_ | refine K_scope ?_ | (refine K_region (id := 0) ?_; refine mv ?_; refine KO_nil ?_) | (refine K_region (id := 1) ?_; refine mv ?_; refine mv ?_; (first | refine cT ?_ | refine cF ?_ | (refine cS ?_ ?_ <;> intro hc)) <;> (refine mv ?_; (first | refine off ?_ | refine mv ?_); (first | refine off ?_ | refine mv ?_); (first | refine off ?_ | (first | refine cT ?_ | refine cF ?_ | (refine cS ?_ ?_ <;> intro hc))) <;> (refine vl ?_; refine mv ?_; refine KO_nil ?_)))))
  all_goals (refine K_ret ⟨_, rfl, ?_⟩)
  all_goals (refine ⟨?_, rfl⟩; unfold BoolIs)
  all_goals first | exact .inl ⟨rfl, by omega⟩ | exact .inr ⟨rfl, by omega⟩

theorem refSize_ok {h0 : AH} (w : WfH h0) (t : Tab) : Fn Tryz.prog Xh 51 [tabV t] h0 (fun v h' => v = .int .i64 (tsize t) ∧ Hs h0 h' []) := by
  have S := Hs.start w
  refine Fn_K rfl Tryz.func51 rfl rfl ?_
  all_goals (repeat' (first | refine K_seq ?_ | refine k_cond rfl ?_ | refine K_skip ?_ | refine K_exit ?_ | refine k_block ?_ | refine K_scope ?_ | (refine K_region (id := 0) ?_; (refine bx S ?_; clear S; intro b h S); refine mv ?_; refine KO_nil ?_) | (refine K_region (id := 1) ?_; (first | refine vl ?_ | refine fB S ?_ | refine fS S rfl rfl ?_ | refine fA ?_); (first | refine lB S rfl rfl ?_ | refine lES S rfl rfl ?_ | refine lEB S ?_ | refine lH S ?_); refine KO_nil ?_) | (refine K_region (id := 2) ?_; (first | refine cT ?_ | refine cF ?_ | (refine cS ?_ ?_ <;> intro hc)) <;> (refine mv ?_; refine KO_nil ?_)) | (refine K_region (id := 3) ?_; (first | refine vl ?_ | refine fB S ?_ | refine fS S rfl rfl ?_ | refine fA ?_); (first | refine lB S rfl rfl ?_ | refine lES S rfl rfl ?_ | refine lEB S ?_ | refine lH S ?_)) | (refine K_region (id := 5) ?_; (first | refine cT ?_ | refine cF ?_ | (refine cS ?_ ?_ <;> intro hc)) <;> (refine mv ?_; refine KO_nil ?_)) | (refine K_region (id := 6) ?_; (first | refine vl ?_ | refine fB S ?_ | refine fS S rfl rfl ?_ | refine fA ?_); (first | refine lB S rfl rfl ?_ | refine lES S rfl rfl ?_ | refine lEB S ?_ | refine lH S ?_)) | (refine K_region (id := 8) ?_; (first | refine cT ?_ | refine cF ?_ | (refine cS ?_ ?_ <;> intro hc)) <;> (refine mv ?_; refine KO_nil ?_)) | (refine K_region (id := 9) ?_; (first | refine vl ?_ | refine fB S ?_ | refine fS S rfl rfl ?_ | refine fA ?_); (first | refine lB S rfl rfl ?_ | refine lES S rfl rfl ?_ | refine lEB S ?_ | refine lH S ?_)) | (refine K_region (id := 11) ?_; (first | refine cT ?_ | refine cF ?_ | (refine cS ?_ ?_ <;> intro hc)) <;> (refine mv ?_; refine KO_nil ?_)) | (refine K_region (id := 12) ?_; (first | refine vl ?_ | refine fB S ?_ | refine fS S rfl rfl ?_ | refine fA ?_); (first | refine lB S rfl rfl ?_ | refine lES S rfl rfl ?_ | refine lEB S ?_ | refine lH S ?_)) | (refine K_region (id := 14) ?_; refine mv ?_; refine KO_nil ?_)))
  · (refine KO_fn rfl rfl rfl rfl rfl ((within_ok _ _ _).mono ?_); rintro _ _ ⟨⟨rfl, hq⟩ | ⟨rfl, hq⟩, rfl⟩) <;> (refine mv ?_; (first | refine off ?_ | (first | refine vl ?_ | refine fB S ?_ | refine fS S rfl rfl ?_ | refine fA ?_)); (first | refine off ?_ | (first | refine lB S rfl rfl ?_ | refine lES S rfl rfl ?_ | refine lEB S ?_ | refine lH S ?_)); (first | refine off ?_ | (first | refine cT ?_ | refine cF ?_ | (refine cS ?_ ?_ <;> intro hc))) <;> (refine vl ?_; refine KO_nil ?_))
    all_goals (repeat' (first | refine K_seq ?_ | refine k_cond rfl ?_ | refine K_skip ?_ | refine K_exit ?_ | refine k_block ?_ | refine K_scope ?_ | (refine K_region (id := 4) ?_; (first | refine vl ?_ | refine fB S ?_ | refine fS S rfl rfl ?_ | refine fA ?_); (first | refine lB S rfl rfl ?_ | refine lES S rfl rfl ?_ | refine lEB S ?_ | refine lH S ?_); refine mv ?_; refine KO_nil ?_) | (refine K_region (id := 14) ?_; refine mv ?_; refine KO_nil ?_)))
    all_goals (refine K_ret ⟨_, rfl, ?_⟩)
    all_goals (refine ⟨?_, S.drop⟩; unfold tsize sizeOf1; rw [if_pos (by omega)]; unfold roundSize)
    all_goals first | (rw [if_pos (by omega)]; rfl) | (rw [if_neg (by omega)]; rfl)
  · (refine KO_fn rfl rfl rfl rfl rfl ((within_ok _ _ _).mono ?_); rintro _ _ ⟨⟨rfl, hq⟩ | ⟨rfl, hq⟩, rfl⟩) <;> (refine mv ?_; (first | refine off ?_ | (first | refine vl ?_ | refine fB S ?_ | refine fS S rfl rfl ?_ | refine fA ?_)); (first | refine off ?_ | (first | refine lB S rfl rfl ?_ | refine lES S rfl rfl ?_ | refine lEB S ?_ | refine lH S ?_)); (first | (refine off ?_; refine vl ?_; refine KO_nil ?_) | skip))
    any_goals ((refine KO_fn rfl rfl rfl rfl rfl ((within_ok _ _ _).mono ?_); rintro _ _ ⟨⟨rfl, hq2⟩ | ⟨rfl, hq2⟩, rfl⟩) <;> (refine vl ?_; refine KO_nil ?_))
    all_goals (repeat' (first | refine K_seq ?_ | refine k_cond rfl ?_ | refine K_skip ?_ | refine K_exit ?_ | refine k_block ?_ | refine K_scope ?_ | (refine K_region (id := 7) ?_; (first | refine vl ?_ | refine fB S ?_ | refine fS S rfl rfl ?_ | refine fA ?_); (first | refine lB S rfl rfl ?_ | refine lES S rfl rfl ?_ | refine lEB S ?_ | refine lH S ?_); (first | refine ml ?_ | refine vl ?_); (first | refine vl ?_ | refine fB S ?_ | refine fS S rfl rfl ?_ | refine fA ?_); (first | refine lB S rfl rfl ?_ | refine lES S rfl rfl ?_ | refine lEB S ?_ | refine lH S ?_); (first | refine ad ?_ | refine vl ?_); refine mv ?_; refine KO_nil ?_) | (refine K_region (id := 14) ?_; refine mv ?_; refine KO_nil ?_)))
    all_goals (refine K_ret ⟨_, rfl, ?_⟩)
    all_goals (refine ⟨?_, S.drop⟩; unfold tsize sizeOf1; rw [if_neg (by omega), if_pos (by omega)]; unfold longSize)
    all_goals first | (rw [if_pos (by omega)]; rfl) | (rw [if_neg (by omega)]; rfl)
  · (refine KO_fn rfl rfl rfl rfl rfl ((within_ok _ _ _).mono ?_); rintro _ _ ⟨⟨rfl, hq⟩ | ⟨rfl, hq⟩, rfl⟩) <;> (refine mv ?_; (first | refine off ?_ | (first | refine vl ?_ | refine fB S ?_ | refine fS S rfl rfl ?_ | refine fA ?_)); (first | refine off ?_ | (first | refine lB S rfl rfl ?_ | refine lES S rfl rfl ?_ | refine lEB S ?_ | refine lH S ?_)); (first | (refine off ?_; refine vl ?_; refine KO_nil ?_) | skip))
    any_goals ((refine KO_fn rfl rfl rfl rfl rfl ((within_ok _ _ _).mono ?_); rintro _ _ ⟨⟨rfl, hq2⟩ | ⟨rfl, hq2⟩, rfl⟩) <;> (refine vl ?_; refine KO_nil ?_))
    all_goals (repeat' (first | refine K_seq ?_ | refine k_cond rfl ?_ | refine K_skip ?_ | refine K_exit ?_ | refine k_block ?_ | refine K_scope ?_ | (refine K_region (id := 10) ?_; (first | refine vl ?_ | refine fB S ?_ | refine fS S rfl rfl ?_ | refine fA ?_); (first | refine lB S rfl rfl ?_ | refine lES S rfl rfl ?_ | refine lEB S ?_ | refine lH S ?_); (first | refine vl ?_ | refine fB S ?_ | refine fS S rfl rfl ?_ | refine fA ?_); (first | refine lB S rfl rfl ?_ | refine lES S rfl rfl ?_ | refine lEB S ?_ | refine lH S ?_); (first | refine ml ?_ | refine vl ?_); (first | refine ad ?_ | refine vl ?_); refine mv ?_; refine KO_nil ?_) | (refine K_region (id := 14) ?_; refine mv ?_; refine KO_nil ?_)))
    all_goals (refine K_ret ⟨_, rfl, ?_⟩)
    all_goals (refine ⟨?_, S.drop⟩; unfold tsize sizeOf1; rw [if_neg (by omega), if_neg (by omega), if_pos (by omega)]; unfold shoeSize)
    all_goals first | (rw [if_pos (by omega)]; rfl) | (rw [if_neg (by omega)]; rfl)
  · (refine KO_fn rfl rfl rfl rfl rfl ((within_ok _ _ _).mono ?_); rintro _ _ ⟨⟨rfl, hq⟩ | ⟨rfl, hq⟩, rfl⟩) <;> (refine mv ?_; (first | refine off ?_ | (first | refine vl ?_ | refine fB S ?_ | refine fS S rfl rfl ?_ | refine fA ?_)); (first | refine off ?_ | (first | refine lB S rfl rfl ?_ | refine lES S rfl rfl ?_ | refine lEB S ?_ | refine lH S ?_)); (first | refine off ?_ | (first | refine vl ?_ | refine fB S ?_ | refine fS S rfl rfl ?_ | refine fA ?_)); (first | refine off ?_ | (first | refine lB S rfl rfl ?_ | refine lES S rfl rfl ?_ | refine lEB S ?_ | refine lH S ?_)); (first | (refine off ?_; refine vl ?_; refine KO_nil ?_) | skip))
    any_goals ((refine KO_fn rfl rfl rfl rfl rfl ((within_ok _ _ _).mono ?_); rintro _ _ ⟨⟨rfl, hq2⟩ | ⟨rfl, hq2⟩, rfl⟩) <;> (refine vl ?_; refine KO_nil ?_))
    all_goals (repeat' (first | refine K_seq ?_ | refine k_cond rfl ?_ | refine K_skip ?_ | refine K_exit ?_ | refine k_block ?_ | refine K_scope ?_ | (refine K_region (id := 13) ?_; (first | refine vl ?_ | refine fB S ?_ | refine fS S rfl rfl ?_ | refine fA ?_); (first | refine lB S rfl rfl ?_ | refine lES S rfl rfl ?_ | refine lEB S ?_ | refine lH S ?_); refine mv ?_; refine KO_nil ?_) | (refine K_region (id := 14) ?_; refine mv ?_; refine KO_nil ?_)))
    all_goals (refine K_ret ⟨_, rfl, ?_⟩)
    all_goals (refine ⟨?_, S.drop⟩; unfold tsize sizeOf1; rw [if_neg (by omega), if_neg (by omega), if_neg (by omega), if_pos (by omega)]; unfold rowSize)
    all_goals first | (rw [if_pos (by omega)]; rfl) | (rw [if_neg (by omega)]; rfl)
  · refine K_ret ⟨_, rfl, ?_⟩
    refine ⟨?_, S.drop⟩
    unfold tsize sizeOf1; rw [if_neg (by omega), if_neg (by omega), if_neg (by omega), if_neg (by omega)]; rfl
end Go.Proofs.Xx

/-
  The reference's check of a table.
-/
namespace Go.Proofs.Xx
open Go Go.Proofs
set_option linter.unusedSimpArgs false
set_option linter.unusedVariables false
set_option maxRecDepth 100000

theorem tsize_le (t : Tab) : 0 ≤ tsize t ∧ tsize t ≤ 24 := by
  unfold tsize sizeOf1 roundSize longSize shoeSize rowSize
  repeat' split
  all_goals omega

theorem refCheck_ok {h0 : AH} (w : WfH h0) (t : Tab) (r : TabR h0 t) : Fn Tryz.prog Xh 67 [tabV t] h0 (fun v h' => v = .int .i64 (chk t) ∧ Hs h0 h' []) := by
  have S := Hs.start w
  have hts := tsize_le t
  obtain ⟨hr, hnm, hol⟩ := r
  refine Fn_K rfl Tryz.func67 rfl rfl ?_
  all_goals (repeat' (first | refine K_seq ?_ | refine k_cond rfl ?_ | refine K_skip ?_ | refine K_exit ?_ | refine k_block ?_ | refine K_scope ?_ | (refine K_region (id := 0) ?_; (refine bx S ?_; clear S; intro b h S); refine mv ?_; refine KO_nil ?_) | (refine K_region (id := 1) ?_; (first | refine lB S rfl rfl ?_ | refine lES S rfl rfl ?_ | refine lEB S ?_ | refine lH S ?_))))
  (refine KO_fn rfl rfl rfl rfl rfl ((refSize_ok S.wf t).mono ?_); rintro _ h ⟨rfl, x⟩) <;> (replace S := S.join0 x; clear x; refine mv ?_; refine KO_nil ?_)
  all_goals (repeat' (first | refine K_seq ?_ | refine k_cond rfl ?_ | refine K_skip ?_ | refine K_exit ?_ | refine k_block ?_ | refine K_scope ?_ | (refine K_region (id := 2) ?_; (first | refine vl ?_ | refine fB S ?_ | refine fS S rfl rfl ?_ | refine fA ?_); (first | refine lB S rfl rfl ?_ | refine lES S rfl rfl ?_ | refine lEB S ?_ | refine lH S ?_))))
  (refine KO_fn rfl rfl rfl rfl rfl ((refName_ok S.wf t.name hnm).mono ?_); rintro _ h ⟨⟨rfl, hq⟩ | ⟨rfl, hq⟩, x⟩) <;> (replace S := S.join0 x; clear x; refine vl ?_; refine KO_nil ?_)
  all_goals (repeat' (first | refine K_seq ?_ | refine k_cond rfl ?_ | refine K_skip ?_ | refine K_exit ?_ | refine k_block ?_ | refine K_scope ?_ | (refine K_region (id := 3) ?_; refine mv ?_; refine KO_nil ?_) | (refine K_region (id := 4) ?_; refine mv ?_; (first | refine cT ?_ | refine cF ?_ | (refine cS ?_ ?_ <;> intro hc)) <;> (refine KO_nil ?_)) | (refine K_region (id := 5) ?_; refine mv ?_; refine KO_nil ?_) | (refine K_region (id := 6) ?_; refine mv ?_; refine KO_nil ?_)))
  · refine K_ret ⟨_, rfl, ?_⟩
    exact ⟨by unfold chk; rw [if_neg (by simpa using hq), if_pos hc]; rfl, S.drop⟩
  · refine k_loop (σ := Nat) (fun i h' => Hs h0 h' [.blk b (tabV t).cells.toList 25] ∧ i ≤ t.opn.length ∧ (∀ j, j < i → (0 ≤ t.opn.getD j default ∧ t.opn.getD j default < tsize t) ∧ (0 < j → t.opn.getD (j - 1) default < t.opn.getD j default))) (fun i => t.opn.length - i) (fun i => [(1, .pointer (some ⟨b, 0, none⟩)), (3, .int .i64 (tsize t)), (4, .int .i64 i)]) 0 (by repeat (first | exact Ks.le_nil _ | refine Ks.le_cons rfl ?_ | refine Ks.le_int ?_)) ?_ ?_
    · exact ⟨S, Nat.zero_le _, fun j hj => absurd hj (Nat.not_lt_zero _)⟩
    clear S
    rintro i h ⟨S, h1, h2⟩
    all_goals (repeat' (first | refine K_seq ?_ | refine k_cond rfl ?_ | refine K_skip ?_ | refine K_exit ?_ | refine k_block ?_ | refine K_scope ?_ | (refine K_region (id := 7) ?_; refine mv ?_; (first | refine vl ?_ | refine fB S ?_ | refine fS S rfl rfl ?_ | refine fA ?_); (first | refine lB S rfl rfl ?_ | refine lES S rfl rfl ?_ | refine lEB S ?_ | refine lH S ?_); (first | refine lnB S ?_ | refine lnS S rfl rfl ?_); (first | refine cT ?_ | refine cF ?_ | (refine cS ?_ ?_ <;> intro hc)) <;> (refine KO_nil ?_)) | (refine K_draw (id := 9) ?_; (first | refine vl ?_ | refine fB S ?_ | refine fS S rfl rfl ?_ | refine fA ?_); (first | refine lB S rfl rfl ?_ | refine lES S rfl rfl ?_ | refine lEB S ?_ | refine lH S ?_); refine mv ?_; (first | refine ixB S ?_ | refine ixS S rfl rfl ?_); (first | refine lB S rfl rfl ?_ | refine lES S rfl rfl ?_ | refine lEB S ?_ | refine lH S ?_); refine mv ?_; (first | refine sb ?_ | refine vl ?_)) | (refine K_region (id := 11) ?_; (first | refine vl ?_ | refine fB S ?_ | refine fS S rfl rfl ?_ | refine fA ?_); (first | refine lB S rfl rfl ?_ | refine lES S rfl rfl ?_ | refine lEB S ?_ | refine lH S ?_))))
    · (refine KO_fn rfl rfl rfl rfl rfl ((within_ok _ _ _).mono ?_); rintro _ _ ⟨⟨rfl, hq3⟩ | ⟨rfl, hq3⟩, rfl⟩) <;> (refine vl ?_; refine mv ?_; (first | refine off ?_ | refine mv ?_); (first | refine off ?_ | (first | refine cT ?_ | refine cF ?_ | (refine cS ?_ ?_ <;> intro hc))) <;> ((first | refine off ?_ | refine mv ?_); (first | refine off ?_ | (first | refine vl ?_ | refine fB S ?_ | refine fS S rfl rfl ?_ | refine fA ?_)); (first | refine off ?_ | (first | refine lB S rfl rfl ?_ | refine lES S rfl rfl ?_ | refine lEB S ?_ | refine lH S ?_)); (first | refine off ?_ | refine mv ?_); (first | refine off ?_ | (first | refine ixB S ?_ | refine ixS S rfl rfl ?_)); (first | refine off ?_ | (first | refine lB S rfl rfl ?_ | refine lES S rfl rfl ?_ | refine lEB S ?_ | refine lH S ?_)); (first | refine off ?_ | (first | refine vl ?_ | refine fB S ?_ | refine fS S rfl rfl ?_ | refine fA ?_)); (first | refine off ?_ | (first | refine lB S rfl rfl ?_ | refine lES S rfl rfl ?_ | refine lEB S ?_ | refine lH S ?_)); (first | refine off ?_ | refine mv ?_); (first | refine off ?_ | (first | refine sb ?_ | refine vl ?_)); (first | refine off ?_ | (first | refine ixB S ?_ | refine ixS S rfl rfl ?_)); (first | refine off ?_ | (first | refine lB S rfl rfl ?_ | refine lES S rfl rfl ?_ | refine lEB S ?_ | refine lH S ?_)); (first | refine off ?_ | (first | refine cT ?_ | refine cF ?_ | (refine cS ?_ ?_ <;> intro hc))) <;> ((first | refine off ?_ | refine vl ?_); refine vl ?_; refine KO_nil ?_)))
      all_goals (repeat' (first | refine K_seq ?_ | refine k_cond rfl ?_ | refine K_skip ?_ | refine K_exit ?_ | refine k_block ?_ | refine K_scope ?_ | (refine K_region (id := 8) ?_; refine mv ?_; (first | refine ad ?_ | refine vl ?_); refine mv ?_; refine KO_nil ?_) | (refine K_region (id := 10) ?_; refine mv ?_; refine KO_nil ?_)))
      all_goals (try simp only [Int.toNat_natCast] at *)
      · refine K_ret ⟨_, rfl, ?_⟩
        refine ⟨?_, S.drop⟩
        rw [show ((i : Int) - 1).toNat = i - 1 by omega] at hc
        have : ¬ OpnOk (tsize t) t.opn := fun q => by have q1 := (q i (by omega)).2 (by omega); omega
        unfold chk; rw [if_neg (by simpa using hq), if_neg (by assumption), if_pos this]; rfl
      · refine ⟨i + 1, ?_, ?_, (by repeat (first | exact Ks.le_nil _ | refine Ks.le_cons rfl ?_ | refine Ks.le_int ?_))⟩
        · show t.opn.length - (i + 1) < t.opn.length - i; omega
        · rw [show ((i : Int) - 1).toNat = i - 1 by omega] at hc
          refine ⟨S, by omega, fun j hj => ?_⟩
          rcases Nat.lt_or_ge j i with q | q
          · exact h2 j q
          · have e : j = i := by omega
            subst e
            exact ⟨by omega, fun q => by omega⟩
      · refine ⟨i + 1, ?_, ?_, (by repeat (first | exact Ks.le_nil _ | refine Ks.le_cons rfl ?_ | refine Ks.le_int ?_))⟩
        · show t.opn.length - (i + 1) < t.opn.length - i; omega
        · refine ⟨S, by omega, fun j hj => ?_⟩
          have e : j = i := by omega
          subst e
          exact ⟨by omega, fun q => by omega⟩
      · refine K_ret ⟨_, rfl, ?_⟩
        refine ⟨?_, S.drop⟩
        have : ¬ OpnOk (tsize t) t.opn := fun q => by have q1 := (q i (by omega)).1; omega
        unfold chk; rw [if_neg (by simpa using hq), if_neg (by assumption), if_pos this]; rfl
    have hok : OpnOk (tsize t) t.opn := fun j hj => h2 j (by omega)
    (refine KO_fn rfl rfl rfl rfl rfl ((within_ok _ _ _).mono ?_); rintro _ _ ⟨⟨rfl, hq3⟩ | ⟨rfl, hq3⟩, rfl⟩) <;> (refine vl ?_; refine mv ?_; (first | refine off ?_ | (first | refine vl ?_ | refine fB S ?_ | refine fS S rfl rfl ?_ | refine fA ?_)); (first | refine off ?_ | (first | refine lB S rfl rfl ?_ | refine lES S rfl rfl ?_ | refine lEB S ?_ | refine lH S ?_)); (first | (refine off ?_; (first | refine off ?_ | refine vl ?_); refine vl ?_; refine KO_nil ?_) | skip))
    any_goals ((refine KO_fn rfl rfl rfl rfl rfl ((within_ok _ _ _).mono ?_); rintro _ _ ⟨⟨rfl, hq4⟩ | ⟨rfl, hq4⟩, rfl⟩) <;> ((first | refine off ?_ | refine vl ?_); refine vl ?_; refine KO_nil ?_))
    all_goals (repeat' (first | refine K_seq ?_ | refine k_cond rfl ?_ | refine K_skip ?_ | refine K_exit ?_ | refine k_block ?_ | refine K_scope ?_ | (refine K_region (id := 12) ?_; refine mv ?_; refine KO_nil ?_) | (refine K_region (id := 13) ?_; refine mv ?_; refine KO_nil ?_)))
    all_goals
      refine K_ret ⟨_, rfl, ?_⟩
      refine ⟨?_, S.drop⟩
      unfold chk; rw [if_neg (by simpa using hq), if_neg (by assumption), if_neg (by simpa using hok)]
      first
        | (rw [if_pos (by unfold XYok; omega)]; rfl)
        | (rw [if_neg (by unfold XYok; omega)]; rfl)
  · refine K_ret ⟨_, rfl, ?_⟩
    exact ⟨by unfold chk; rw [if_pos (by simpa using hq)]; rfl, S.drop⟩
end Go.Proofs.Xx

/-
  A part of a slice that is only read.
-/
namespace Go.Proofs.Xx
open Go
set_option linter.unusedSimpArgs false
set_option linter.unusedVariables false

section
variable {P : Program} {X : Extern} {sz : Nat} {L : Ks} {h h0 : AH} {rs : List Rs} {ops : Array Oper} {os : List Oper} {o : Oper} {R : Ks → AH → Prop}
theorem slice_rd {α : Type} {ty : TypeId} {v : Value} {z a b : Nat} {enc : α → List Value} {l : List α} {vlo vhi : Option Value} (hr : RdL h v z enc l) (hc : CapOk v) (hz : ∀ x, (enc x).length = z) (hu : elemZ P ty = some z)
    (h1 : boundOf vlo 0 = some a) (h2 : boundOf vhi l.length = some b) (hab : a ≤ b ∧ b ≤ l.length) : ∃ v', aSlice P ty v vlo vhi none h = some v' ∧ RdL h v' z enc ((l.drop a).take (b - a)) ∧ CapOk v' := by
  have hue : ∃ e', P.underlying ty = some (.slice e') ∧ sizeT P e' = some z := by
    unfold elemZ at hu
    split at hu
    · exact ⟨_, by assumption, hu⟩
    · cases hu
  obtain ⟨e', hu1, hu2⟩ := hue
  have hlen : ((l.drop a).take (b - a)).length = b - a := by simp; omega
  have hfl : ∀ m : List α, (m.flatMap enc).length = m.length * z := flatMap_length hz
  unfold RdL at hr ⊢
  rw [hlen]
  rcases hr with ⟨rfl, g1, g2⟩ | ⟨b', o', cap, cc, e, s, q, rfl, g1, g2⟩
  · rw [g1] at hab h2
    obtain rfl : b = 0 := by omega
    obtain rfl : a = 0 := by omega
    refine ⟨.slice none 0 0, ?_, .inl ⟨rfl, rfl, by simp⟩, Nat.le_refl _⟩
    simp only [aSlice, hu1, hu2, h1, h2]
  · have hcap : l.length ≤ cap := hc
    have t1 : Nat.ble a b = true := Nat.ble_eq_true_of_le hab.1
    have t2 : Nat.ble b cap = true := Nat.ble_eq_true_of_le (by omega)
    have sub := takeAt_sub (i := a * z) (m := (b - a) * z) g2 (by rw [← Nat.add_mul]; exact Nat.mul_le_mul_right z (by omega))
    have hd : (l.flatMap enc).drop (a * z) = (l.drop a).flatMap enc := by
      have e : l.flatMap enc = (l.take a).flatMap enc ++ (l.drop a).flatMap enc := by rw [← List.flatMap_append, List.take_append_drop]
      rw [e, List.drop_left' (by rw [hfl, List.length_take, Nat.min_eq_left (by omega)])]
    have ht : ((l.drop a).flatMap enc).take ((b - a) * z) = ((l.drop a).take (b - a)).flatMap enc := by
      have e : (l.drop a).flatMap enc = ((l.drop a).take (b - a)).flatMap enc ++ ((l.drop a).drop (b - a)).flatMap enc := by rw [← List.flatMap_append, List.take_append_drop]
      rw [e, List.take_left' (by rw [hfl, hlen])]
    rw [hd, ht] at sub
    cases hk : (s.isNone && Nat.beq a cap) with
    | false =>
      refine ⟨.slice (some ⟨b', o' + a * z, none⟩) (b - a) (cap - a), ?_, .inr ⟨b', o' + a * z, cap - a, cc, e, s, q, rfl, g1, sub⟩, by show b - a ≤ cap - a; omega⟩
      simp only [aSlice, hu1, hu2, g1, h1, h2, t1, t2, hk, Bool.and_self]
    | true =>
      have hac : a = cap := by rw [Bool.and_eq_true] at hk; exact Nat.eq_of_beq_eq_true hk.2
      have hba : b - a = 0 := by omega
      refine ⟨.slice (some ⟨b', o', none⟩) (b - a) (cap - a), ?_, .inr ⟨b', o', cap - a, cc, e, s, q, rfl, g1, ?_⟩, by show b - a ≤ cap - a; omega⟩
      · simp only [aSlice, hu1, hu2, g1, h1, h2, t1, t2, hk, Bool.and_self]
      · rw [hba]; simp [takeAt]
/-- v[lo:hi] of a slice that is only read. -/
theorem su {α : Type} {x : Operand} {lo hi : Option Operand} {vlo vhi : Option Value} {ty : TypeId} {v : Value} {z : Nat} {enc : α → List Value} {l : List α} {d : Tmp} (a b : Nat) (hr : RdL h v z enc l) (hc : CapOk v)
    (w : ∀ v', RdL h v' z enc ((l.drop a).take (b - a)) → CapOk v' → KO P X sz ops os (L.put d v') h R) (ho : o.op = .slice ty x lo hi none := by exact rfl) (hx : kA L x = some v := by exact rfl) (hg : guardA ops L.tree o.guard = some true := by exact rfl)
    (hlo : evOpt L.tree lo = some vlo := by exact rfl) (hhi : evOpt L.tree hi = some vhi := by exact rfl) (hz : ∀ x, (enc x).length = z := by intro _; rfl) (hu : elemZ P ty = some z := by exact rfl)
    (h1 : boundOf vlo 0 = some a := by exact rfl) (h2 : boundOf vhi l.length = some b := by exact rfl) (hab : a ≤ b ∧ b ≤ l.length := by first | omega | grind) (hdst : o.dst = some d := by exact rfl) (hds : Nat.blt d sz = true := by exact rfl) : KO P X sz ops (o :: os) L h R := by
  obtain ⟨v', e1, e2, e3⟩ := slice_rd hr hc hz hu h1 h2 hab
  refine KO_val (v := v') (h' := h) hg ?_ (by simp only [putK, hdst, hds]) (w v' e2 e3)
  rw [ho]
  simp only [aOp, tree_le hx, hlo, hhi, show evOpt L.tree none = some none from rfl, e1, nextOf]
/-- A load from a block that was there before. -/
theorem lH {L' : Ks} {x : Operand} {ty e : TypeId} {b k : Nat} {c : List Value} {v : Value} {q : Option Nat} {r : Bool} (S : Hs h0 h rs) (w : KO P X sz ops os L' h R) (ho : o.op = .load ty x := by exact rfl) (hx : kA L x = some (.pointer (some ⟨b, k, none⟩)) := by exact rfl)
    (hb : h0.get b = some (.cells c e q r) := by assumption) (wf : WfH h0 := by assumption) (hg : guardA ops L.tree o.guard = some true := by exact rfl) (hv : loadC P ty c k = some v := by exact rfl) (hp : putK sz L o.dst v = some L' := by exact rfl) : KO P X sz ops (o :: os) L h R :=
  KO_load ho hg hx (by rw [aLoad_loadC (S.ext.get wf hb)]; exact hv) hp w
end
end Go.Proofs.Xx

/-
  Regions with makes whose place is open; resources joined; the front of a slice of one's own.
-/
namespace Go.Proofs.Xx
open Go
set_option linter.unusedSimpArgs false
set_option linter.unusedVariables false

section
variable {P : Program} {X : Extern} {inR : Bool} {sz : Nat} {L : Ks} {h h0 : AH} {rs : List Rs} {ops : Array Oper} {os : List Oper} {o : Oper} {R : Ks → AH → Prop} {Q : KQ}

theorem K_drawF1 {id j1 : Nat} {c1 : List Value} {e1 : TypeId} {rd : List (Nat × Nat × Nat)} (bl : Nat → List (Option Nat)) (S : Hs h0 h rs) (ho1 : HintOk P ops sz L h j1 c1 e1)
    (w : ∀ b1 h', Hs h0 h' (.blk b1 c1 e1 :: rs) → KOX P X sz ops [j1] [(j1, b1)] rd (bl b1) 0 ops.toList L h' (Q .norm)) (hd : drawX ops [j1] rd = true := by decide +kernel) (hn : ∀ b1, rd.length = (bl b1).length := by intro _; rfl) : K P X inR sz (.region id ops true) L h Q :=
  K_drawF (j := j1) (r := []) [.cells c1 e1 none false] rd (bl h.next) ⟨⟨c1, e1, ho1, rfl⟩, trivial⟩ (w h.next _ (S.add c1 e1)) (hn _) hd
theorem K_drawF2 {id j1 j2 : Nat} {c1 c2 : List Value} {e1 e2 : TypeId} {rd : List (Nat × Nat × Nat)} (bl : Nat → Nat → List (Option Nat)) (S : Hs h0 h rs) (ho1 : HintOk P ops sz L h j1 c1 e1) (ho2 : HintOk P ops sz L h j2 c2 e2)
    (w : ∀ b1 b2 h', Hs h0 h' (.blk b2 c2 e2 :: .blk b1 c1 e1 :: rs) → KOX P X sz ops [j1, j2] [(j1, b1), (j2, b2)] rd (bl b1 b2) 0 ops.toList L h' (Q .norm)) (hd : drawX ops [j1, j2] rd = true := by decide +kernel) (hn : ∀ b1 b2, rd.length = (bl b1 b2).length := by intro _ _; rfl) : K P X inR sz (.region id ops true) L h Q :=
  K_drawF (j := j1) (r := [j2]) [.cells c1 e1 none false, .cells c2 e2 none false] rd (bl h.next (h.next + 1)) ⟨⟨c1, e1, ho1, rfl⟩, ⟨c2, e2, ho2, rfl⟩, trivial⟩ (w h.next (h.next + 1) _ ((S.add c1 e1).add c2 e2)) (hn _ _) hd
theorem K_drawF3 {id j1 j2 j3 : Nat} {c1 c2 c3 : List Value} {e1 e2 e3 : TypeId} {rd : List (Nat × Nat × Nat)} (bl : Nat → Nat → Nat → List (Option Nat)) (S : Hs h0 h rs) (ho1 : HintOk P ops sz L h j1 c1 e1) (ho2 : HintOk P ops sz L h j2 c2 e2) (ho3 : HintOk P ops sz L h j3 c3 e3)
    (w : ∀ b1 b2 b3 h', Hs h0 h' (.blk b3 c3 e3 :: .blk b2 c2 e2 :: .blk b1 c1 e1 :: rs) → KOX P X sz ops [j1, j2, j3] [(j1, b1), (j2, b2), (j3, b3)] rd (bl b1 b2 b3) 0 ops.toList L h' (Q .norm)) (hd : drawX ops [j1, j2, j3] rd = true := by decide +kernel) (hn : ∀ b1 b2 b3, rd.length = (bl b1 b2 b3).length := by intro _ _ _; rfl) : K P X inR sz (.region id ops true) L h Q :=
  K_drawF (j := j1) (r := [j2, j3]) [.cells c1 e1 none false, .cells c2 e2 none false, .cells c3 e3 none false] rd (bl h.next (h.next + 1) (h.next + 2)) ⟨⟨c1, e1, ho1, rfl⟩, ⟨c2, e2, ho2, rfl⟩, ⟨c3, e3, ho3, rfl⟩, trivial⟩ (w h.next (h.next + 1) (h.next + 2) _ (((S.add c1 e1).add c2 e2).add c3 e3)) (hn _ _ _) hd
/-- A float's step. -/
theorem fl {fls : List Nat} {ids : List (Nat × Nat)} {rd : List (Nat × Nat × Nat)} {bl : List (Option Nat)} {i b : Nat} {L' : Ks} {x : Option Nat} {c : List Value} {e : TypeId} (S : Hs h0 h rs) (hi : idOf ids i = some b) (hf : aFloat P L.tree o.op = some (x, c, e)) (hb : h.get b = some (.cells c e none false)) (w : KOX P X sz ops fls ids rd bl (i + 1) os L' h R)
    (hbl : blkFor rd bl i = some (some b) := by exact rfl) (hc : chainAt ops fls i = false := by decide +kernel) (hg : guardA ops L.tree o.guard = some true := by exact rfl) (hp : putK sz L o.dst (mkFloat x b) = some L' := by exact rfl) : KOX P X sz ops fls ids rd bl i (o :: os) L h R := KX_fl hi hf hb hbl hc hg hp w

/-- A block that is a whole slice. -/
theorem Hs.asSl {b z : Nat} {c : List Value} {e : TypeId} {α : Type} (enc : α → List Value) (l : List α) (S : Hs h0 h (.blk b c e :: rs)) (hc : c = l.flatMap enc := by rfl) (hz : c.length = l.length * z := by rfl) : Hs h0 h (.sl (.slice (some ⟨b, 0, none⟩) l.length l.length) e z enc l :: rs) :=
  S.same .here fun fp k => .inr ⟨b, 0, c, none, rfl, k.1, k.2, by rw [← hz, ← hc, takeAt_all], .inl (by omega), .inl rfl⟩
theorem rd_blk {b z : Nat} {c : List Value} {e : TypeId} {s : Option Nat} {r : Bool} {α : Type} (enc : α → List Value) (l : List α) (hb : h.get b = some (.cells c e s r)) (hc : c = l.flatMap enc := by rfl) (hz : c.length = l.length * z := by rfl) : RdL h (.slice (some ⟨b, 0, none⟩) l.length l.length) z enc l :=
  .inr ⟨b, 0, l.length, c, e, s, r, rfl, hb, by rw [← hz, ← hc, takeAt_all]⟩
theorem Hs.merge {r1 r2 r : Rs} (S : Hs h0 h (r1 :: r2 :: rs)) (k : ∀ f1 f2, r1.ok h f1 → r2.ok h f2 → r.ok h (fun b => f1 b ∨ f2 b)) : Hs h0 h (r :: rs) := by
  obtain ⟨f1, k1, q1, f2, k2, q2, s⟩ := S.sep
  refine ⟨S.ext, fun b => f1 b ∨ f2 b, k f1 f2 k1 k2, fun b hb => ?_, s.mono fun b hb => ⟨hb.1.1, fun q => q.elim hb.1.2 hb.2⟩⟩
  rcases hb with hb | hb
  · exact q1 b hb
  · exact ⟨(q2 b hb).1, (q2 b hb).2.1, trivial⟩

/-- v[:b] of a slice of one's own, from now on only read. -/
theorem th {α : Type} {x hi : Operand} {ty e : TypeId} {v vh : Value} {z : Nat} {enc : α → List Value} {l : List α} {f : Rs → List Rs} {dd : List Rs} {d : Tmp} (b : Nat) (S : Hs h0 h rs) (ho : o.op = .slice ty x none (some hi) none) (hx : kA L x = some v) [i : HasS rs v α e z enc l f dd]
    (w : ∀ v', Hs h0 h (f (.rd v' z enc (l.take b))) → KO P X sz ops os (L.put d v') h R) (hg : guardA ops L.tree o.guard = some true := by exact rfl) (hhi : kA L hi = some vh := by exact rfl) (hbo : boundOf (some vh) l.length = some b := by exact rfl) (hb : b ≤ l.length := by first | omega | grind)
    (hz : ∀ x, (enc x).length = z := by intro _; rfl) (hu : elemZ P ty = some z := by exact rfl) (hdst : o.dst = some d := by exact rfl) (hds : Nat.blt d sz = true := by exact rfl) : KO P X sz ops (o :: os) L h R := by
  obtain ⟨fp, k1, k2, -⟩ := (i.ut (.sl v e z enc l)).ok (h' := h) S.ext.next (Nat.le_refl _) S.sep
  have hue : ∃ e', P.underlying ty = some (.slice e') ∧ sizeT P e' = some z := by
    unfold elemZ at hu
    split at hu
    · exact ⟨_, by assumption, hu⟩
    · cases hu
  obtain ⟨e', hu1, hu2⟩ := hue
  have hhi' : evA L.tree hi = some vh := tree_le hhi
  have go : ∀ v', aSlice P ty v none (some vh) none h = some v' → (∀ fq, (Rs.sl v e z enc l).ok h fq → (Rs.rd v' z enc (l.take b)).ok h fq) → KO P X sz ops (o :: os) L h R := fun v' q1 q2 => by
    refine KO_val (v := v') (h' := h) hg ?_ (by simp only [putK, hdst, hds]) (w v' (S.same (i.ut _) q2))
    rw [ho]
    simp only [aOp, tree_le hx, evOpt, hhi', q1, nextOf]
  have h0b : boundOf none 0 = some 0 := rfl
  rcases k1 with ⟨rfl, rfl⟩ | ⟨bb, o', cc, slk, g1, g2, g3, g4, g5, g6⟩
  · obtain rfl : b = 0 := by simpa using hb
    refine go (.slice none 0 0) ?_ fun fq q => .inl ⟨rfl, by simp⟩
    have : boundOf (some vh) 0 = some 0 := hbo
    simp only [aSlice, hu1, hu2, this, h0b]
  · subst g1
    have t1 : Nat.ble 0 b = true := by simp
    have t2 : Nat.ble b l.length = true := Nat.ble_eq_true_of_le hb
    have hlen : (l.take b).length = b := by simp; omega
    have sub := takeAt_sub (i := 0) (m := b * z) g4 (by rw [Nat.zero_add]; exact Nat.mul_le_mul_right z hb)
    rw [List.drop_zero, ← flatMap_take hz, Nat.add_zero] at sub
    have fin : ∀ c2, (Rs.rd (.slice (some ⟨bb, o', none⟩) (b - 0) c2) z enc (l.take b)).ok h fp := fun c2 =>
      .inr ⟨bb, o', c2, cc, e, slk, false, by rw [hlen, Nat.sub_zero], g2, g3, by rw [hlen]; exact sub⟩
    have key : ∀ c2, ∀ fq, (Rs.sl (.slice (some ⟨bb, o', none⟩) l.length l.length) e z enc l).ok h fq → (Rs.rd (.slice (some ⟨bb, o', none⟩) (b - 0) c2) z enc (l.take b)).ok h fq := fun c2 fq q => by
      rcases q with ⟨q1, -⟩ | ⟨b2, o2, cc2, sl2, q1, q2, q3, -⟩
      · cases q1
      · cases q1
        exact .inr ⟨bb, o', c2, cc, e, slk, false, by rw [hlen, Nat.sub_zero], g2, q3, by rw [hlen]; exact sub⟩
    cases hk : (slk.isNone && Nat.beq 0 l.length) with
    | false =>
      refine go (.slice (some ⟨bb, o', none⟩) (b - 0) (l.length - 0)) ?_ (key _)
      simp only [aSlice, hu1, hu2, g2, h0b, hbo, t1, t2, hk, Bool.and_self, Nat.zero_mul, Nat.add_zero]
    | true =>
      refine go (.slice (some ⟨bb, o', none⟩) (b - 0) (l.length - 0)) ?_ (key _)
      simp only [aSlice, hu1, hu2, g2, h0b, hbo, t1, t2, hk, Bool.and_self]
/-- An empty slice of one's own. -/
theorem nw {α : Type} {ty e : TypeId} {zc : List Value} {d : Tmp} (z : Nat) (enc : α → List Value) (S : Hs h0 h rs) (w : ∀ u h', Hs h0 h' (.sl u e z enc [] :: rs) → KO P X sz ops os (L.put d u) h' R) (ho : o.op = .buildSlice ty 0 #[] := by exact rfl) (hg : guardA ops L.tree o.guard = some true := by exact rfl)
    (hs : sliceElem P ty = some e := by exact rfl) (hz : zeroCellsT P e = some zc := by exact rfl) (hdst : o.dst = some d := by exact rfl) (hds : Nat.blt d sz = true := by exact rfl) : KO P X sz ops (o :: os) L h R :=
  KO_bslice ho hg (show kParts L (#[] : Array (Nat × Operand)).toList = some [] by rfl) (build0 hs hz h) (by simp only [putK, hdst, hds]) (w (.slice (some ⟨h.next, 0, none⟩) 0 0) _ ((S.add [] e).asSl (z := z) enc [] rfl (by simp)))
/-- append of a list that is read. -/
theorem apd {α : Type} {x y : Operand} {ts tx e : TypeId} {zc : List Value} {by_ z : Nat} {enc : α → List Value} {l l2 : List α} {f : Rs → List Rs} {dd : List Rs} {v u : Value} {d : Tmp} (S : Hs h0 h rs) (ho : o.op = .call { callee := .builtin .append, args := #[x, y], argTypes := #[ts, tx] }) (hx : kA L x = some v) [i : HasS rs v α e z enc l f dd]
    (hr : RdL h u z enc l2) (w : ∀ v' h', Hs h0 h' (.sl v' e z enc (l ++ l2) :: dd) → KO P X sz ops os (L.put d v') h' R) (h1 : ∀ y ∈ l2, (enc y).all one? = true := by intro _ _; rfl) (hg : guardA ops L.tree o.guard = some true := by exact rfl) (hy : kA L y = some u := by exact rfl) (hs : sliceElem P ts = some e := by exact rfl) (hz : zeroCellsT P e = some zc := by exact rfl) (hzl : zc.length = z := by exact rfl) (hb : bytesT P e = some (by_ + 1) := by exact rfl) (hxs : (sliceElem P tx).isSome = true := by exact rfl)
    (hlen : ∀ y, (enc y).length = z := by intro _; rfl) (hsz : (l.length + l2.length + 1) * (by_ + 1) ≤ 1099511627776 := by first | omega | (simp only [List.length_nil]; omega) | grind) (hdst : o.dst = some d := by exact rfl) (hds : Nat.blt d sz = true := by exact rfl) : KO P X sz ops (o :: os) L h R := m_append S ho hg hx hy i.dt hr hs hz hzl hb hxs h1 hlen hsz hdst hds w
/-- The address of a field of an element of a slice that was there before, or of one's own. -/
theorem fB {L' : Ks} {x : Operand} {ty : TypeId} {fs : Array Field} {fd : Field} {v : Value} {z k off f m n : Nat} {c : List Value} (S : Hs h0 h rs) (w : KO P X sz ops os L' h R) (ho : o.op = .fieldAddr ty x f := by exact rfl) (hg : guardA ops L.tree o.guard = some true := by exact rfl)
    (hx : kA L x = some (elA v z k off) := by exact rfl) (hu : P.underlying ty = some (.struct fs) := by exact rfl) (hf : fs[f]? = some fd := by exact rfl) (hm : sizeT P fd.type = some (m + 1) := by exact rfl) (hr : Rd h0 v z n c := by assumption) (wf : WfH h0 := by assumption) (hk : k < n := by first | omega | grind)
    (hp : putK sz L o.dst (elA v z k (off + fd.offset)) = some L' := by exact rfl) : KO P X sz ops (o :: os) L h R := m_fld ho hg hx hu hf hm (hr.ext wf S.ext) hk hp w
theorem fS {L' : Ks} {x : Operand} {ty : TypeId} {fs : Array Field} {fd : Field} {v : Value} {z z' k off f m : Nat} {α : Type} {enc : α → List Value} {l : List α} (S : Hs h0 h rs) (ho : o.op = .fieldAddr ty x f) (hx : kA L x = some (elA v z' k off)) [i : HasR rs v α z enc l] (w : KO P X sz ops os L' h R) (hzz : z' = z := by exact rfl) (hg : guardA ops L.tree o.guard = some true := by exact rfl)
    (hu : P.underlying ty = some (.struct fs) := by exact rfl) (hf : fs[f]? = some fd := by exact rfl) (hm : sizeT P fd.type = some (m + 1) := by exact rfl) (hk : k < l.length := by first | omega | grind) (hp : putK sz L o.dst (elA v z' k (off + fd.offset)) = some L' := by exact rfl) : KO P X sz ops (o :: os) L h R := by
  subst hzz
  exact m_fld ho hg hx hu hf hm (i.rd S) hk hp w
/-- A truth value compared with itself. -/
theorem bT {L' : Ks} {x y : Operand} {ty ty2 : TypeId} {b : Bool} (w : KO P X sz ops os L' h R) (ho : o.op = .binOp .eql ty x y ty2 := by exact rfl) (hg : guardA ops L.tree o.guard = some true := by exact rfl) (hx : kA L x = some (.bool b) := by exact rfl) (hy : kA L y = some (.bool b) := by exact rfl) (hu : P.underlying ty = some .bool := by exact rfl) (hp : putK sz L o.dst (.bool true) = some L' := by exact rfl) : KO P X sz ops (o :: os) L h R :=
  KO_bin ho hg hx hy (v := .bool true) (by cases b <;> simp [aBin, hu]) hp w
/-- Two structs of two ints compared. -/
theorem pE {L1 L2 : Ks} {x y : Operand} {ty ty2 : TypeId} {a0 a1 b0 b1 : Int} (w1 : (a0 = b0 ∧ a1 = b1) → KO P X sz ops os L1 h R) (w2 : ¬ (a0 = b0 ∧ a1 = b1) → KO P X sz ops os L2 h R) (ho : o.op = .binOp .eql ty x y ty2 := by exact rfl) (hg : guardA ops L.tree o.guard = some true := by exact rfl)
    (hx : kA L x = some (.agg #[.int .i64 a0, .int .i64 a1]) := by exact rfl) (hy : kA L y = some (.agg #[.int .i64 b0, .int .i64 b1]) := by exact rfl) (hu : pairT P ty = true := by decide +kernel) (hp1 : putK sz L o.dst (.bool true) = some L1 := by exact rfl) (hp2 : putK sz L o.dst (.bool false) = some L2 := by exact rfl) : KO P X sz ops (o :: os) L h R := by
  by_cases p : a0 = b0 ∧ a1 = b1
  · exact KO_bin ho hg hx hy (v := .bool true) (by simp [aBin, hu, p.1, p.2]) hp1 (w1 p)
  · refine KO_bin ho hg hx hy (v := .bool false) ?_ hp2 (w2 p)
    have : (a0 == b0 && a1 == b1) = false := by
      rw [Bool.eq_false_iff]
      intro q
      simp only [Bool.and_eq_true, beq_iff_eq] at q
      exact p q
    simp [aBin, hu, this]
end
end Go.Proofs.Xx

/-
  A first element that a function accepts.
-/
namespace Go.Proofs.Xx
open Go Go.Proofs
set_option linter.unusedSimpArgs false
set_option linter.unusedVariables false
set_option maxRecDepth 100000

/-- The first index below n where p holds, -1 if none. -/
def IdxIs (v : Value) (p : Nat → Prop) (n : Nat) : Prop := (∃ i : Nat, i < n ∧ v = .int .i64 i ∧ p i ∧ ∀ j, j < i → ¬ p j) ∨ (v = .int .i64 (-1) ∧ ∀ j, j < n → ¬ p j)

theorem indexTab_ok {h0 : AH} (w : WfH h0) (v : Value) (l : List Tab) (g : Nat) (cap : List Value) (p : Nat → Prop) (hr : RdL h0 v 7 eT l) (hl : l.length ≤ 1000)
    (hf : ∀ i h, i < l.length → Hs h0 h [] → Fn Tryz.prog Xh g (tabV (l.getD i default) :: cap) h (fun v h' => BoolIs v (p i) ∧ Hs h h' [])) :
    Fn Tryz.prog Xh 85 [v, .func (.func g) #[] cap.toArray] h0 (fun r h' => IdxIs r p l.length ∧ Hs h0 h' []) := by
  have S := Hs.start w
  refine Fn_K rfl Tryz.func85 rfl rfl ?_
  all_goals (repeat' (first | refine K_seq ?_ | refine k_cond rfl ?_ | refine K_skip ?_ | refine K_exit ?_ | refine k_block ?_ | refine K_scope ?_ | (refine K_region (id := 0) ?_; refine mv ?_; refine KO_nil ?_) | (refine K_region (id := 1) ?_; refine mv ?_; (first | refine lnB S ?_ | refine lnS S rfl rfl ?_); refine mv ?_; refine KO_nil ?_)))
  refine k_loop (σ := Nat) (fun i h' => Hs h0 h' [] ∧ i ≤ l.length ∧ ∀ j, j < i → ¬ p j) (fun i => l.length - i) (fun i => [(0, v), (1, .func (.func g) #[] cap.toArray), (7, .int .i64 l.length), (8, .int .i64 i)]) 0 (by repeat (first | exact Ks.le_nil _ | refine Ks.le_cons rfl ?_ | refine Ks.le_int ?_)) ?_ ?_
  · exact ⟨S, Nat.zero_le _, fun j hj => absurd hj (Nat.not_lt_zero _)⟩
  clear S
  rintro i h ⟨S, h1, h2⟩
  all_goals (repeat' (first | refine K_seq ?_ | refine k_cond rfl ?_ | refine K_skip ?_ | refine K_exit ?_ | refine k_block ?_ | refine K_scope ?_ | (refine K_region (id := 2) ?_; (first | refine cT ?_ | refine cF ?_ | (refine cS ?_ ?_ <;> intro hc)) <;> (refine KO_nil ?_)) | (refine K_region (id := 3) ?_; refine mv ?_; refine mv ?_; refine KO_nil ?_) | (refine K_region (id := 4) ?_; refine mv ?_; refine mv ?_; refine mv ?_; (first | refine ixB S ?_ | refine ixS S rfl rfl ?_); (first | refine lB S rfl rfl ?_ | refine lES S rfl rfl ?_ | refine lEB S ?_ | refine lH S ?_)) | (refine K_region (id := 7) ?_; refine mv ?_; refine KO_nil ?_)))
  · (refine KO_call rfl rfl rfl rfl ((hf i _ (by omega) S).mono ?_); rintro _ h ⟨⟨rfl, hq⟩ | ⟨rfl, hq⟩, x⟩) <;> (replace S := S.join0 x; clear x; refine KO_nil ?_)
    all_goals (repeat' (first | refine K_seq ?_ | refine k_cond rfl ?_ | refine K_skip ?_ | refine K_exit ?_ | refine k_block ?_ | refine K_scope ?_ | (refine K_region (id := 5) ?_; refine mv ?_; refine mv ?_; refine KO_nil ?_) | (refine K_region (id := 6) ?_; (first | refine ad ?_ | refine vl ?_); refine mv ?_; refine KO_nil ?_)))
    · refine K_ret ⟨_, rfl, ?_⟩
      exact ⟨.inl ⟨i, by omega, rfl, hq, h2⟩, S⟩
    · refine ⟨i + 1, ?_, ?_, (by repeat (first | exact Ks.le_nil _ | refine Ks.le_cons rfl ?_ | refine Ks.le_int ?_))⟩
      · show l.length - (i + 1) < l.length - i; omega
      · refine ⟨S, by omega, fun j hj => ?_⟩
        rcases Nat.lt_or_ge j i with q | q
        · exact h2 j q
        · have e : j = i := by omega
          subst e; exact hq
  · refine K_ret ⟨_, rfl, ?_⟩
    exact ⟨.inr ⟨rfl, fun j hj => h2 j (by omega)⟩, S⟩

theorem containsTab_ok {h0 : AH} (w : WfH h0) (v : Value) (l : List Tab) (g : Nat) (cap : List Value) (p : Nat → Prop) (hr : RdL h0 v 7 eT l) (hl : l.length ≤ 1000)
    (hf : ∀ i h, i < l.length → Hs h0 h [] → Fn Tryz.prog Xh g (tabV (l.getD i default) :: cap) h (fun v h' => BoolIs v (p i) ∧ Hs h h' [])) :
    Fn Tryz.prog Xh 64 [v, .func (.func g) #[] cap.toArray] h0 (fun r h' => BoolIs r (∃ i, i < l.length ∧ p i) ∧ Hs h0 h' []) := by
  have S := Hs.start w
  refine Fn_K rfl Tryz.func64 rfl rfl ?_
  all_goals (repeat' (first | refine K_seq ?_ | refine k_cond rfl ?_ | refine K_skip ?_ | refine K_exit ?_ | refine k_block ?_ | refine K_scope ?_ | (refine K_region (id := 0) ?_; refine mv ?_; refine KO_nil ?_) | (refine K_region (id := 1) ?_; refine mv ?_; refine mv ?_)))
  (refine KO_fn rfl rfl rfl rfl rfl ((indexTab_ok S.wf v l g cap p hr hl hf).mono ?_); rintro _ h ⟨⟨i, hi, rfl, hq, hn⟩ | ⟨rfl, hn⟩, x⟩) <;> (replace S := S.join0 x; clear x; (first | refine cT ?_ | refine cF ?_ | (refine cS ?_ ?_ <;> intro hc)) <;> (refine mv ?_; refine KO_nil ?_))
  all_goals (repeat' (first | refine K_seq ?_ | refine k_cond rfl ?_ | refine K_skip ?_ | refine K_exit ?_ | refine k_block ?_ | refine K_scope ?_))
  all_goals (try omega)
  all_goals (refine K_ret ⟨_, rfl, ?_⟩)
  · exact ⟨.inl ⟨rfl, i, hi, hq⟩, S⟩
  · exact ⟨.inr ⟨rfl, fun ⟨j, hj, hp⟩ => hn j hj hp⟩, S⟩
end Go.Proofs.Xx

/-
  The check of a hall, the program's and the reference's.
-/
namespace Go.Proofs.Xx
open Go Go.Proofs
set_option linter.unusedSimpArgs false
set_option linter.unusedVariables false
set_option maxRecDepth 100000

abbrev tb (l : List Tab) (i : Nat) : Tab := l.getD i default
def dupAt (l : List Tab) (k : Nat) : Prop := ∃ j, j < k ∧ (tb l j).name = (tb l k).name
def goodAt (l : List Tab) (k : Nat) : Prop := chk (tb l k) = 0 ∧ ¬ dupAt l k
def ChkAll (l : List Tab) (i e : Int) : Prop :=
  (16 < l.length ∧ i = 0 ∧ e = 7) ∨ (l.length ≤ 16 ∧ ((∃ k : Nat, k < l.length ∧ i = k ∧ (∀ j, j < k → goodAt l j) ∧ ((chk (tb l k) ≠ 0 ∧ e = chk (tb l k)) ∨ (chk (tb l k) = 0 ∧ dupAt l k ∧ e = 5))) ∨ ((∀ j, j < l.length → goodAt l j) ∧ i = 0 ∧ e = 0)))
/-- What a hall reads as. -/
structure HallR (h : AH) (v : Value) (l : List Tab) : Prop where
  rd : RdL h v 7 eT l
  tab : ∀ i, i < l.length → TabR h (tb l i)
  len : l.length ≤ 1000
  cap : CapOk v
theorem TabR.ext {h h' : AH} {t : Tab} (r : TabR h t) (w : WfH h) (x : Ext h h') : TabR h' t := ⟨r.1.ext w x, r.2⟩
theorem HallR.ext {h h' : AH} {v : Value} {l : List Tab} (r : HallR h v l) (w : WfH h) (x : Ext h h') : HallR h' v l := ⟨r.rd.ext w x, fun i hi => (r.tab i hi).ext w x, r.len, r.cap⟩

/-- A hall that is valid. -/
def ValidL (l : List Tab) : Prop := l.length ≤ 16 ∧ ∀ j, j < l.length → goodAt l j
theorem ChkAll.valid {l : List Tab} {i e : Int} (a : ChkAll l i e) : e = 0 ↔ ValidL l := by
  rcases a with ⟨h1, h2, h3⟩ | ⟨h1, ⟨k, hk, h2, h3, ⟨h4, h5⟩ | ⟨h4, h5, h6⟩⟩ | ⟨h2, h3, h4⟩⟩
  · exact ⟨fun q => by omega, fun q => by have := q.1; omega⟩
  · exact ⟨fun q => absurd (h5 ▸ q) h4, fun q => absurd (q.2 k hk).1 h4⟩
  · exact ⟨fun q => by omega, fun q => absurd h5 (q.2 k hk).2⟩
  · exact ⟨fun _ => ⟨h1, h2⟩, fun _ => h4⟩
theorem ChkAll.uniq {l : List Tab} {i e i' e' : Int} (a : ChkAll l i e) (b : ChkAll l i' e') : i = i' ∧ e = e' := by
  have key : ∀ {k k' : Nat}, (∀ j, j < k → goodAt l j) → ¬ goodAt l k' → k ≤ k' := fun g n => Nat.le_of_not_lt fun q => n (g _ q)
  have bad : ∀ {k : Nat} {e : Int}, ((chk (tb l k) ≠ 0 ∧ e = chk (tb l k)) ∨ (chk (tb l k) = 0 ∧ dupAt l k ∧ e = 5)) → ¬ goodAt l k := fun q g => q.elim (fun q => q.1 g.1) (fun q => g.2 q.2.1)
  rcases a with ⟨h1, h2, h3⟩ | ⟨h1, ⟨k, hk, h2, h3, h4⟩ | ⟨h2, h3, h4⟩⟩ <;> rcases b with ⟨g1, g2, g3⟩ | ⟨g1, ⟨k', hk', g2, g3, g4⟩ | ⟨g2, g3, g4⟩⟩
  · exact ⟨by omega, by omega⟩
  · omega
  · omega
  · omega
  · have e1 := key h3 (bad g4)
    have e2 := key g3 (bad h4)
    have : k = k' := by omega
    subst this
    refine ⟨by omega, ?_⟩
    rcases h4 with ⟨h4, h5⟩ | ⟨h4, h5, h6⟩ <;> rcases g4 with ⟨g4, g5⟩ | ⟨g4, g5, g6⟩
    · omega
    · exact absurd g4 h4
    · exact absurd h4 g4
    · omega
  · exact absurd (g2 k hk) (bad h4)
  · omega
  · exact absurd (h2 k' hk') (bad g4)
  · exact ⟨by omega, by omega⟩
/-- How many seats the first k tables have. -/
def sumT (l : List Tab) : Nat → Int
  | 0 => 0
  | k + 1 => sumT l k + tsize (tb l k)

theorem sameName_ok {h0 : AH} (w : WfH h0) (t u : Tab) (b : Nat) (hb : h0.get b = some (.cells (eT u) 25 none false)) : Fn Tryz.prog Xh 113 [tabV t, .pointer (some ⟨b, 0, none⟩)] h0 (fun v h' => BoolIs v (t.name = u.name) ∧ Hs h0 h' []) := by
  have S := Hs.start w
  refine Fn_K rfl Tryz.func113 rfl rfl ?_
  all_goals (repeat' (first | refine K_seq ?_ | refine k_cond rfl ?_ | refine K_skip ?_ | refine K_exit ?_ | refine k_block ?_ | refine K_scope ?_ | (refine K_region (id := 0) ?_; (refine bx S ?_; clear S; intro b h S); refine mv ?_; refine KO_nil ?_) | (refine K_region (id := 1) ?_; (first | refine vl ?_ | refine fB S ?_ | refine fS S rfl rfl ?_ | refine fA ?_); (first | refine lB S rfl rfl ?_ | refine lES S rfl rfl ?_ | refine lEB S ?_ | refine lH S ?_); (first | refine vl ?_ | refine fB S ?_ | refine fS S rfl rfl ?_ | refine fA ?_); (first | refine lB S rfl rfl ?_ | refine lES S rfl rfl ?_ | refine lEB S ?_ | refine lH S ?_); (refine tS ?_ ?_ <;> intro hc) <;> (refine mv ?_; refine KO_nil ?_))))
  all_goals (refine K_ret ⟨_, rfl, ?_⟩)
  all_goals (refine ⟨?_, S.drop⟩; unfold BoolIs)
  · exact .inl ⟨rfl, hc⟩
  · exact .inr ⟨rfl, hc⟩

theorem checkAll_ok {h0 : AH} (w : WfH h0) (v : Value) (l : List Tab) (H : HallR h0 v l) : Fn Tryz.prog Xh 55 [v] h0 (fun r h' => ∃ i e, r = .tuple #[.int .i64 i, .int .i64 e] ∧ ChkAll l i e ∧ Hs h0 h' []) := by
  have S := Hs.start w
  have hl := H.len
  have hr := H.rd
  refine Fn_K rfl Tryz.func55 rfl rfl ?_
  all_goals (repeat' (first | refine K_seq ?_ | refine k_cond rfl ?_ | refine K_skip ?_ | refine K_exit ?_ | refine k_block ?_ | refine K_scope ?_ | (refine K_region (id := 0) ?_; refine mv ?_; refine mv ?_; refine KO_nil ?_) | (refine K_region (id := 1) ?_; refine mv ?_; (first | refine lnB S ?_ | refine lnS S rfl rfl ?_); (first | refine cT ?_ | refine cF ?_ | (refine cS ?_ ?_ <;> intro hc)) <;> (refine KO_nil ?_)) | (refine K_region (id := 2) ?_; refine mv ?_; refine mv ?_; refine KO_nil ?_) | (refine K_region (id := 3) ?_; refine mv ?_; (first | refine lnB S ?_ | refine lnS S rfl rfl ?_); refine mv ?_; refine KO_nil ?_)))
  · refine K_ret ⟨_, rfl, ?_⟩
    exact ⟨0, 7, rfl, .inl ⟨by omega, rfl, rfl⟩, S⟩
  · refine k_loop (σ := Nat) (fun i h' => Hs h0 h' [] ∧ i ≤ l.length ∧ ∀ j, j < i → goodAt l j) (fun i => l.length - i) (fun i => [(0, v), (10, v), (11, .int .i64 l.length), (12, .int .i64 i)]) 0 (by repeat (first | exact Ks.le_nil _ | refine Ks.le_cons rfl ?_ | refine Ks.le_int ?_)) ?_ ?_
    · exact ⟨S, Nat.zero_le _, fun j hj => absurd hj (Nat.not_lt_zero _)⟩
    clear S
    rintro i h ⟨S, h1, h2⟩
    all_goals (repeat' (first | refine K_seq ?_ | refine k_cond rfl ?_ | refine K_skip ?_ | refine K_exit ?_ | refine k_block ?_ | refine K_scope ?_ | (refine K_region (id := 4) ?_; (first | refine cT ?_ | refine cF ?_ | (refine cS ?_ ?_ <;> intro hc)) <;> (refine KO_nil ?_)) | (refine K_region (id := 5) ?_; refine mv ?_; (first | refine ixB S ?_ | refine ixS S rfl rfl ?_); (first | refine lB S rfl rfl ?_ | refine lES S rfl rfl ?_ | refine lEB S ?_ | refine lH S ?_); (refine al S ?_; clear S; intro b h S); refine mv ?_; (first | (refine sB S rfl rfl ?_; clear S; intro h S) | (refine sE S rfl rfl ?_; clear S; intro h S)); refine KO_nil ?_) | (refine K_region (id := 6) ?_; (first | refine lB S rfl rfl ?_ | refine lES S rfl rfl ?_ | refine lEB S ?_ | refine lH S ?_)) | (refine K_region (id := 12) ?_; refine mv ?_; refine mv ?_; refine KO_nil ?_)))
    · (try simp only [Int.toNat_natCast] at *)
      have hi : i < l.length := by omega
      (refine KO_fn rfl rfl rfl rfl rfl ((check_ok S.wf (tb l i) ((H.tab i hi).ext w S.ext)).mono ?_); rintro _ h ⟨rfl, x⟩) <;> (replace S := S.join0 x; clear x; refine mv ?_; refine KO_nil ?_)
      all_goals (repeat' (first | refine K_seq ?_ | refine k_cond rfl ?_ | refine K_skip ?_ | refine K_exit ?_ | refine k_block ?_ | refine K_scope ?_ | (refine K_region (id := 7) ?_; refine mv ?_; (first | refine cT ?_ | refine cF ?_ | (refine cS ?_ ?_ <;> intro hc)) <;> (refine KO_nil ?_)) | (refine K_region (id := 8) ?_; refine mv ?_; refine mv ?_; refine mv ?_; refine mv ?_; refine KO_nil ?_) | (refine K_region (id := 9) ?_; refine mv ?_; refine mv ?_)))
      · refine K_ret ⟨_, rfl, ?_⟩
        exact ⟨i, _, rfl, .inr ⟨by omega, .inl ⟨i, hi, rfl, h2, .inl ⟨by simpa using hc, rfl⟩⟩⟩, S.drop⟩
      · refine su 0 i (hr.ext w S.ext) H.cap ?_; intro vs hrs hcs; (refine vl ?_)
        have gb := S.gB (b := b)
        have hlen : ((l.drop 0).take (i - 0)).length = i := by simp; omega
        have hget : ∀ k, k < i → ((l.drop 0).take (i - 0)).getD k default = tb l k := fun k hk => by
          unfold tb
          simp only [List.drop_zero, Nat.sub_zero, List.getD_eq_getElem?_getD, List.getElem?_take, if_pos hk]
        have hf : ∀ k h', k < ((l.drop 0).take (i - 0)).length → Hs h h' [] → Fn Tryz.prog Xh 113 (tabV (((l.drop 0).take (i - 0)).getD k default) :: [.pointer (some ⟨b, 0, none⟩)]) h' (fun v h'' => BoolIs v ((tb l k).name = (tb l i).name) ∧ Hs h' h'' []) := fun k h' hk x => by
          rw [hget k (by omega)]
          exact sameName_ok x.wf (tb l k) (tb l i) b (x.ext.get S.wf gb)
        (refine KO_fn rfl rfl rfl rfl rfl ((containsTab_ok S.wf vs _ 113 [.pointer (some ⟨b, 0, none⟩)] (fun k => (tb l k).name = (tb l i).name) hrs (by omega) hf).mono ?_); rintro _ h ⟨⟨rfl, hq⟩ | ⟨rfl, hq⟩, x⟩) <;> (replace S := S.join0 x; clear x; refine KO_nil ?_)
        all_goals (repeat' (first | refine K_seq ?_ | refine k_cond rfl ?_ | refine K_skip ?_ | refine K_exit ?_ | refine k_block ?_ | refine K_scope ?_ | (refine K_region (id := 10) ?_; refine mv ?_; refine mv ?_; refine mv ?_; refine KO_nil ?_) | (refine K_region (id := 11) ?_; (first | refine ad ?_ | refine vl ?_); refine mv ?_; refine KO_nil ?_)))
        · refine K_ret ⟨_, rfl, ?_⟩
          obtain ⟨j, hj, hq⟩ := hq
          exact ⟨i, 5, rfl, .inr ⟨by omega, .inl ⟨i, hi, rfl, h2, .inr ⟨by simpa using hc, ⟨j, by omega, hq⟩, rfl⟩⟩⟩, S.drop⟩
        · refine ⟨i + 1, ?_, ?_, (by repeat (first | exact Ks.le_nil _ | refine Ks.le_cons rfl ?_ | refine Ks.le_int ?_))⟩
          · show l.length - (i + 1) < l.length - i; omega
          · refine ⟨S.drop, by omega, fun j hj => ?_⟩
            rcases Nat.lt_or_ge j i with q | q
            · exact h2 j q
            · obtain rfl : j = i := by omega
              exact ⟨by simpa using hc, fun ⟨k, hk, he⟩ => hq ⟨k, by omega, he⟩⟩
    · refine K_ret ⟨_, rfl, ?_⟩
      exact ⟨0, 0, rfl, .inr ⟨by omega, .inr ⟨fun j hj => h2 j (by omega), rfl, rfl⟩⟩, S⟩

theorem refCheckAll_ok {h0 : AH} (w : WfH h0) (v : Value) (l : List Tab) (H : HallR h0 v l) : Fn Tryz.prog Xh 74 [v] h0 (fun r h' => ∃ i e, r = .tuple #[.int .i64 i, .int .i64 e] ∧ ChkAll l i e ∧ Hs h0 h' []) := by
  have S := Hs.start w
  have hl := H.len
  have hr := H.rd
  refine Fn_K rfl Tryz.func74 rfl rfl ?_
  all_goals (repeat' (first | refine K_seq ?_ | refine k_cond rfl ?_ | refine K_skip ?_ | refine K_exit ?_ | refine k_block ?_ | refine K_scope ?_ | (refine K_region (id := 0) ?_; refine mv ?_; refine mv ?_; refine KO_nil ?_) | (refine K_region (id := 1) ?_; refine mv ?_; (first | refine lnB S ?_ | refine lnS S rfl rfl ?_); (first | refine cT ?_ | refine cF ?_ | (refine cS ?_ ?_ <;> intro hc)) <;> (refine KO_nil ?_)) | (refine K_region (id := 2) ?_; refine mv ?_; refine mv ?_; refine KO_nil ?_) | (refine K_region (id := 3) ?_; refine mv ?_; refine KO_nil ?_)))
  · refine K_ret ⟨_, rfl, ?_⟩
    exact ⟨0, 7, rfl, .inl ⟨by omega, rfl, rfl⟩, S⟩
  · refine k_loop (σ := Nat) (fun i h' => Hs h0 h' [] ∧ i ≤ l.length ∧ ∀ j, j < i → goodAt l j) (fun i => l.length - i) (fun i => [(0, v), (4, .int .i64 i)]) 0 (by repeat (first | exact Ks.le_nil _ | refine Ks.le_cons rfl ?_ | refine Ks.le_int ?_)) ?_ ?_
    · exact ⟨S, Nat.zero_le _, fun j hj => absurd hj (Nat.not_lt_zero _)⟩
    clear S
    rintro i h ⟨S, h1, h2⟩
    all_goals (repeat' (first | refine K_seq ?_ | refine k_cond rfl ?_ | refine K_skip ?_ | refine K_exit ?_ | refine k_block ?_ | refine K_scope ?_ | (refine K_region (id := 4) ?_; refine mv ?_; refine mv ?_; (first | refine lnB S ?_ | refine lnS S rfl rfl ?_); (first | refine cT ?_ | refine cF ?_ | (refine cS ?_ ?_ <;> intro hc)) <;> (refine KO_nil ?_)) | (refine K_region (id := 6) ?_; refine mv ?_; refine mv ?_; (first | refine ixB S ?_ | refine ixS S rfl rfl ?_); (first | refine lB S rfl rfl ?_ | refine lES S rfl rfl ?_ | refine lEB S ?_ | refine lH S ?_)) | (refine K_region (id := 14) ?_; refine mv ?_; refine mv ?_; refine KO_nil ?_)))
    · (try simp only [Int.toNat_natCast] at *)
      have hi : i < l.length := by omega
      (refine KO_fn rfl rfl rfl rfl rfl ((refCheck_ok S.wf (tb l i) ((H.tab i hi).ext w S.ext)).mono ?_); rintro _ h ⟨rfl, x⟩) <;> (replace S := S.join0 x; clear x; refine mv ?_; refine KO_nil ?_)
      all_goals (repeat' (first | refine K_seq ?_ | refine k_cond rfl ?_ | refine K_skip ?_ | refine K_exit ?_ | refine k_block ?_ | refine K_scope ?_ | (refine K_region (id := 7) ?_; refine mv ?_; (first | refine cT ?_ | refine cF ?_ | (refine cS ?_ ?_ <;> intro hc)) <;> (refine KO_nil ?_)) | (refine K_region (id := 8) ?_; refine mv ?_; refine mv ?_; refine mv ?_; refine mv ?_; refine KO_nil ?_) | (refine K_region (id := 9) ?_; refine mv ?_; refine KO_nil ?_)))
      · refine K_ret ⟨_, rfl, ?_⟩
        exact ⟨i, _, rfl, .inr ⟨by omega, .inl ⟨i, hi, rfl, h2, .inl ⟨by simpa using hc, rfl⟩⟩⟩, S.drop⟩
      · have hc0 : chk (tb l i) = 0 := by simpa using hc
        refine k_loop (σ := Nat) (fun k h' => Hs h0 h' [] ∧ k ≤ i ∧ ∀ j, j < k → ¬ (tb l j).name = (tb l i).name) (fun k => i - k) (fun k => [(0, v), (4, .int .i64 i), (6, .int .i64 k)]) 0 (by repeat (first | exact Ks.le_nil _ | refine Ks.le_cons rfl ?_ | refine Ks.le_int ?_)) ?_ ?_
        · exact ⟨S, Nat.zero_le _, fun j hj => absurd hj (Nat.not_lt_zero _)⟩
        clear S
        rintro k h ⟨S, k1, k2⟩
        all_goals (repeat' (first | refine K_seq ?_ | refine k_cond rfl ?_ | refine K_skip ?_ | refine K_exit ?_ | refine k_block ?_ | refine K_scope ?_ | (refine K_region (id := 5) ?_; refine mv ?_; (first | refine ad ?_ | refine vl ?_); refine mv ?_; refine KO_nil ?_) | (refine K_region (id := 10) ?_; refine mv ?_; refine mv ?_; (first | refine cT ?_ | refine cF ?_ | (refine cS ?_ ?_ <;> intro hc)) <;> (refine KO_nil ?_)) | (refine K_region (id := 11) ?_; refine mv ?_; (first | refine ad ?_ | refine vl ?_); refine mv ?_; refine KO_nil ?_) | (refine K_draw (id := 12) ?_; refine mv ?_; refine mv ?_; (first | refine ixB S ?_ | refine ixS S rfl rfl ?_); (first | refine vl ?_ | refine fB S ?_ | refine fS S rfl rfl ?_ | refine fA ?_); (first | refine lB S rfl rfl ?_ | refine lES S rfl rfl ?_ | refine lEB S ?_ | refine lH S ?_); refine mv ?_; refine mv ?_; (first | refine ixB S ?_ | refine ixS S rfl rfl ?_); (first | refine vl ?_ | refine fB S ?_ | refine fS S rfl rfl ?_ | refine fA ?_); (first | refine lB S rfl rfl ?_ | refine lES S rfl rfl ?_ | refine lEB S ?_ | refine lH S ?_); (refine tS ?_ ?_ <;> intro hc) <;> (refine KO_nil ?_)) | (refine K_region (id := 13) ?_; refine mv ?_; refine mv ?_; refine mv ?_; refine KO_nil ?_)))
        · (try simp only [Int.toNat_natCast] at *)
          refine K_ret ⟨_, rfl, ?_⟩
          exact ⟨i, 5, rfl, .inr ⟨by omega, .inl ⟨i, hi, rfl, h2, .inr ⟨hc0, ⟨k, by omega, by assumption⟩, rfl⟩⟩⟩, S⟩
        · (try simp only [Int.toNat_natCast] at *)
          refine ⟨k + 1, ?_, ?_, (by repeat (first | exact Ks.le_nil _ | refine Ks.le_cons rfl ?_ | refine Ks.le_int ?_))⟩
          · show i - (k + 1) < i - k; omega
          · refine ⟨S, by omega, fun j hj => ?_⟩
            rcases Nat.lt_or_ge j k with q | q
            · exact k2 j q
            · obtain rfl : j = k := by omega
              assumption
        · refine ⟨i + 1, ?_, ?_, (by repeat (first | exact Ks.le_nil _ | refine Ks.le_cons rfl ?_ | refine Ks.le_int ?_))⟩
          · show l.length - (i + 1) < l.length - i; omega
          · refine ⟨S, by omega, fun j hj => ?_⟩
            rcases Nat.lt_or_ge j i with q | q
            · exact h2 j q
            · obtain rfl : j = i := by omega
              exact ⟨hc0, fun ⟨m, hm, he⟩ => k2 m (by omega) he⟩
    · refine K_ret ⟨_, rfl, ?_⟩
      exact ⟨0, 0, rfl, .inr ⟨by omega, .inr ⟨fun j hj => h2 j (by omega), rfl, rfl⟩⟩, S⟩

theorem valid_ok {h0 : AH} (w : WfH h0) (v : Value) (l : List Tab) (H : HallR h0 v l) : Fn Tryz.prog Xh 84 [v] h0 (fun r h' => BoolIs r (ValidL l) ∧ Hs h0 h' []) := by
  have S := Hs.start w
  refine Fn_K rfl Tryz.func84 rfl rfl ?_
  all_goals (repeat' (first | refine K_seq ?_ | refine k_cond rfl ?_ | refine K_skip ?_ | refine K_exit ?_ | refine k_block ?_ | refine K_scope ?_ | (refine K_region (id := 0) ?_; refine mv ?_; refine KO_nil ?_) | (refine K_region (id := 1) ?_; refine mv ?_)))
  (refine KO_fn rfl rfl rfl rfl rfl ((checkAll_ok S.wf v l H).mono ?_); rintro _ h ⟨i, e, rfl, hk, x⟩) <;> (replace S := S.join0 x; clear x; refine mv ?_; refine vl ?_; refine vl ?_; refine mv ?_; refine mv ?_; refine KO_nil ?_)
  all_goals (repeat' (first | refine K_seq ?_ | refine k_cond rfl ?_ | refine K_skip ?_ | refine K_exit ?_ | refine k_block ?_ | refine K_scope ?_ | (refine K_region (id := 2) ?_; refine mv ?_; (first | refine cT ?_ | refine cF ?_ | (refine cS ?_ ?_ <;> intro hc)) <;> (refine mv ?_; refine KO_nil ?_))))
  all_goals (refine K_ret ⟨_, rfl, ?_⟩)
  · exact ⟨.inl ⟨rfl, hk.valid.1 hc⟩, S⟩
  · exact ⟨.inr ⟨rfl, fun q => hc (hk.valid.2 q)⟩, S⟩
theorem refValid_ok {h0 : AH} (w : WfH h0) (v : Value) (l : List Tab) (H : HallR h0 v l) : Fn Tryz.prog Xh 73 [v] h0 (fun r h' => BoolIs r (ValidL l) ∧ Hs h0 h' []) := by
  have S := Hs.start w
  refine Fn_K rfl Tryz.func73 rfl rfl ?_
  all_goals (repeat' (first | refine K_seq ?_ | refine k_cond rfl ?_ | refine K_skip ?_ | refine K_exit ?_ | refine k_block ?_ | refine K_scope ?_ | (refine K_region (id := 0) ?_; refine mv ?_; refine KO_nil ?_) | (refine K_region (id := 1) ?_; refine mv ?_)))
  (refine KO_fn rfl rfl rfl rfl rfl ((refCheckAll_ok S.wf v l H).mono ?_); rintro _ h ⟨i, e, rfl, hk, x⟩) <;> (replace S := S.join0 x; clear x; refine mv ?_; refine vl ?_; refine vl ?_; refine mv ?_; refine mv ?_; refine KO_nil ?_)
  all_goals (repeat' (first | refine K_seq ?_ | refine k_cond rfl ?_ | refine K_skip ?_ | refine K_exit ?_ | refine k_block ?_ | refine K_scope ?_ | (refine K_region (id := 2) ?_; refine mv ?_; (first | refine cT ?_ | refine cF ?_ | (refine cS ?_ ?_ <;> intro hc)) <;> (refine mv ?_; refine KO_nil ?_))))
  all_goals (refine K_ret ⟨_, rfl, ?_⟩)
  · exact ⟨.inl ⟨rfl, hk.valid.1 hc⟩, S⟩
  · exact ⟨.inr ⟨rfl, fun q => hc (hk.valid.2 q)⟩, S⟩
end Go.Proofs.Xx

/-
  hall.permutation.
-/
namespace Go.Proofs.Xx
open Go Go.Proofs
set_option linter.unusedSimpArgs false
set_option linter.unusedVariables false

def permOk (l : List Int) : Bool := decide ((∀ x ∈ l, 0 ≤ x ∧ x < l.length) ∧ l.Nodup)
def seenL (l : List Int) (i : Nat) : List Value := (List.range l.length).map fun (k : Nat) => Value.bool (decide ((k : Int) ∈ l.take i))
theorem seenL_length (l : List Int) (i : Nat) : (seenL l i).length = l.length := by simp [seenL]
theorem seenL_get {l : List Int} {i k : Nat} (hk : k < l.length) : (seenL l i)[k]? = some (.bool (decide ((k : Int) ∈ l.take i))) := by simp [seenL, hk]
theorem seenL_zero (l : List Int) : zeroRow [.bool false] l.length = seenL l 0 := by
  rw [zeroRow_one]
  apply List.ext_getElem?
  intro k
  by_cases hk : k < l.length
  · rw [seenL_get hk]; simp [hk]
  · rw [List.getElem?_eq_none (by simp; omega), List.getElem?_eq_none (by rw [seenL_length]; omega)]
theorem seenL_set {l : List Int} {i k : Nat} (hi : i < l.length) (hk : k < l.length) (hx : l[i] = (k : Int)) : (seenL l i).set k (.bool true) = seenL l (i + 1) := by
  apply List.ext_getElem?
  intro j
  by_cases hj : j < l.length
  · rw [List.getElem?_set, seenL_get (i := i + 1) hj, List.take_succ_eq_append_getElem hi, hx]
    by_cases hjk : k = j
    · subst hjk; simp [seenL_length, hj]
    · rw [if_neg hjk, seenL_get hj]
      have : ((j : Int) ∈ l.take i ++ [(k : Int)]) ↔ (j : Int) ∈ l.take i := by simp; omega
      simp only [this]
  · rw [List.getElem?_eq_none (by rw [List.length_set, seenL_length]; omega), List.getElem?_eq_none (by rw [seenL_length]; omega)]

theorem nodup_take_succ {l : List Int} {i : Nat} (hi : i < l.length) (h : (l.take i).Nodup) (hn : ¬ l[i] ∈ l.take i) : (l.take (i + 1)).Nodup := by
  rw [List.take_succ_eq_append_getElem hi, List.nodup_append]
  exact ⟨h, by simp, fun a ha b hb q => by simp at hb; subst hb; subst q; exact hn ha⟩

theorem permutation_ok {h : AH} {v : Value} {l : List Int} (w : WfH h) (r : RdI h v l) (hl : l.length < 2^30) :
    Fn Tryz.prog Xh 116 [v] h (fun u h' => u = .bool (permOk l) ∧ Ext h h') := by
  refine Fn_K rfl Tryz.func116 rfl rfl ?_
  refine K_seq (K_region (KO_val rfl rfl rfl (KO_nil ?_)))
  refine K_seq (K_region ?_)
  refine KO_val rfl rfl rfl ?_
  refine KO_len rfl rfl rfl (r.len und23) rfl ?_
  obtain ⟨s, h1, m1, m2, m3⟩ := make_own w el56 z4 by4 (n := l.length) (by omega)
  refine KO_make rfl rfl rfl rfl m1 rfl ?_
  refine KO_val rfl rfl rfl (KO_nil ?_)
  rw [seenL_zero] at m2
  have r1 := r.ext w m3
  refine K_seq (K_seq (K_region ?_))
  refine KO_val rfl rfl rfl ?_
  refine KO_len rfl rfl rfl (r1.len und23) rfl ?_
  refine KO_val rfl rfl rfl (KO_nil ?_)
  refine K_block ?_
  refine K_loop (fun m L h2 => Ext h h2 ∧ ∃ i : Nat, m + i = l.length ∧ Own h2 s h.next 4 1 l.length (seenL l i) ∧ (∀ x ∈ l.take i, 0 ≤ x ∧ x < l.length) ∧ (l.take i).Nodup ∧ L = [(0, v), (3, s), (9, v), (10, .int .i64 l.length), (11, .int .i64 i)]) ?_ l.length
    ⟨m3, 0, rfl, m2, by simp, by simp, rfl⟩ (Ks.le_cons rfl (Ks.le_cons rfl (Ks.le_cons rfl (Ks.le_cons rfl (Ks.le_cons rfl (Ks.le_nil _))))))
  rintro m L h2 ⟨x2, i, him, own, hin, hnd, rfl⟩
  have r2 := r.ext w x2
  refine K_seq (K_region (KO_val rfl rfl rfl (KO_nil ?_)))
  refine K_seq ?_
  refine K_cond2 rfl (fun hv => ?_) (fun hv => ?_)
  · have hv := of_decide_eq_true hv
    have hi : i < l.length := by omega
    refine K_skip ?_
    refine K_seq (K_block (K_seq (K_region ?_)))
    obtain ⟨p, hp1, hp2⟩ := r2.at1 und23 sz3 agg3 (ik := .i64) (ints_get (List.getElem?_eq_getElem hi))
    refine KO_index rfl rfl rfl rfl hp1 rfl ?_
    refine KO_load rfl rfl rfl hp2 rfl ?_
    refine KO_val rfl rfl rfl (KO_nil ?_)
    refine K_seq (K_seq (K_region (KO.mono (R' := fun L' h' => h' = h2 ∧ ∃ B : Bool, (B = true → permOk l = false) ∧ (B = false → 0 ≤ l[i] ∧ l[i] < l.length ∧ ¬ l[i] ∈ l.take i) ∧
      Ks.le [(0, v), (3, s), (5, .int .i64 l[i]), (9, v), (10, .int .i64 l.length), (11, .int .i64 i), (28, .bool B)] L') ?_ ?_)))
    · refine KO_val rfl rfl rfl ?_
      by_cases hx0 : l[i] < 0
      · refine KO_bin rfl rfl rfl rfl (lss_i64 (decide_eq_true hx0)) rfl ?_
        refine KO_val rfl rfl rfl ?_
        iterate 4 refine KO_off rfl rfl ?_
        iterate 2 refine KO_val rfl rfl rfl ?_
        iterate 4 refine KO_off rfl rfl ?_
        refine KO_val rfl rfl rfl (KO_nil ?_)
        refine ⟨rfl, true, fun _ => ?_, (by simp), ?_⟩
        · rw [permOk, decide_eq_false_iff_not]
          rintro ⟨q, -⟩
          have := q l[i] (List.getElem_mem hi); omega
        · repeat (first | exact Ks.le_nil _ | refine Ks.le_cons rfl ?_)
      · refine KO_bin rfl rfl rfl rfl (lss_i64 (decide_eq_false hx0)) rfl ?_
        iterate 3 refine KO_val rfl rfl rfl ?_
        refine KO_len rfl rfl rfl (r2.len und23) rfl ?_
        by_cases hx1 : l[i] ≥ l.length
        · refine KO_bin rfl rfl rfl rfl (geq_i64 (decide_eq_true hx1)) rfl ?_
          iterate 2 refine KO_val rfl rfl rfl ?_
          iterate 4 refine KO_off rfl rfl ?_
          refine KO_val rfl rfl rfl (KO_nil ?_)
          refine ⟨rfl, true, fun _ => ?_, (by simp), ?_⟩
          · rw [permOk, decide_eq_false_iff_not]
            rintro ⟨q, -⟩
            have := q l[i] (List.getElem_mem hi); omega
          · repeat (first | exact Ks.le_nil _ | refine Ks.le_cons rfl ?_)
        · refine KO_bin rfl rfl rfl rfl (geq_i64 (decide_eq_false hx1)) rfl ?_
          iterate 4 refine KO_val rfl rfl rfl ?_
          obtain ⟨k, hk⟩ := Int.eq_ofNat_of_zero_le (show 0 ≤ l[i] by omega)
          have hkl : k < l.length := by omega
          obtain ⟨p2, hq1, hq2⟩ := own.rd.at1 und56 sz4 agg4 (ik := .i64) (seenL_get hkl)
          refine KO_index rfl rfl rfl rfl (by rw [hk]; exact hq1) rfl ?_
          refine KO_load rfl rfl rfl hq2 rfl ?_
          refine KO_val rfl rfl rfl (KO_nil ?_)
          refine ⟨rfl, decide ((k : Int) ∈ l.take i), fun q => ?_, fun q => ?_, ?_⟩
          · have q := of_decide_eq_true q
            rw [permOk, decide_eq_false_iff_not]
            rintro ⟨-, nd⟩
            rw [← List.take_append_drop i l, List.nodup_append] at nd
            refine nd.2.2 _ q (k : Int) ?_ rfl
            rw [← hk, List.drop_eq_getElem_cons hi]; exact List.mem_cons_self
          · have q := of_decide_eq_false q
            rw [← hk] at q
            exact ⟨by omega, by omega, q⟩
          · repeat (first | exact Ks.le_nil _ | refine Ks.le_cons rfl ?_)
    · rintro L' h3 ⟨rfl, B, hB1, hB2, hle⟩
      refine K.le hle ?_
      cases B with
      | true =>
        refine K_cond rfl ?_
        refine K_seq (K_region (KO_val rfl rfl rfl (KO_nil ?_)))
        refine K_ret ?_
        exact ⟨_, rfl, by rw [hB1 rfl]; rfl, x2⟩
      | false =>
        obtain ⟨y1, y2, y3⟩ := hB2 rfl
        refine K_cond rfl ?_
        refine K_skip ?_
        refine K_region ?_
        obtain ⟨k, hk⟩ := Int.eq_ofNat_of_zero_le y1
        have hkl : k < l.length := by omega
        obtain ⟨p2, o1, o2, o3⟩ := own.set und56 sz4 (ik := .i64) hkl (x := .bool true) rfl rfl
        iterate 2 refine KO_val rfl rfl rfl ?_
        refine KO_index rfl rfl rfl rfl (by rw [hk]; exact o1) rfl ?_
        refine KO_store rfl rfl rfl rfl o2 rfl (KO_nil ?_)
        refine K_region ?_
        refine KO_bin rfl rfl rfl rfl (add_i64 (c := ((i + 1 : Nat) : Int)) (by omega) (by omega) (by omega)) rfl ?_
        refine KO_val rfl rfl rfl (KO_nil ?_)
        rw [seenL_set hi hkl hk] at o3 ⊢
        refine ⟨m - 1, _, by omega, ⟨x2.put (Nat.le_refl _) (x2.wf.lt own.obj) _, i + 1, by omega, o3, ?_, nodup_take_succ hi hnd y3, rfl⟩, ?_⟩
        · intro x hx
          rw [List.take_succ_eq_append_getElem hi, List.mem_append] at hx
          rcases hx with hx | hx
          · exact hin x hx
          · simp at hx; subst hx; exact ⟨y1, y2⟩
        · repeat (first | exact Ks.le_nil _ | refine Ks.le_cons rfl ?_)
  · have hv := of_decide_eq_false hv
    have hil : i = l.length := by omega
    subst hil
    rw [List.take_length] at hin hnd
    refine K_exit ?_
    show K Tryz.prog Xh _ _ _ _ _ _
    refine K_seq (K_region (KO_val rfl rfl rfl (KO_nil ?_)))
    refine K_ret ?_
    refine ⟨_, rfl, ?_, x2⟩
    have : permOk l = true := by rw [permOk, decide_eq_true_iff]; exact ⟨hin, hnd⟩
    rw [this]; rfl
end Go.Proofs.Xx

/-
  slices.Equal, slices.Clone of ints.
-/
namespace Go.Proofs.Xx
open Go Go.Proofs
set_option linter.unusedSimpArgs false
set_option linter.unusedVariables false

theorem take_snoc_eq {a b : List Int} {i : Nat} (ha : i < a.length) (hb : i < b.length) (h : a.take i = b.take i) (hx : a[i] = b[i]) : a.take (i + 1) = b.take (i + 1) := by
  rw [List.take_succ_eq_append_getElem ha, List.take_succ_eq_append_getElem hb, h, hx]

theorem equal_ints {h : AH} {v u : Value} {a b : List Int} (ra : RdI h v a) (rb : RdI h u b) (hl : a.length < 2^30) (hl2 : b.length < 2^30) :
    Fn Tryz.prog Xh 59 [v, u] h (fun x h' => x = .bool (decide (a = b)) ∧ h' = h) := by
  refine Fn_K rfl Tryz.func59 rfl rfl ?_
  refine K_seq (K_region (KO_val rfl rfl rfl (KO_nil ?_)))
  refine K_seq (K_seq (K_region ?_))
  refine KO_val rfl rfl rfl ?_
  refine KO_len rfl rfl rfl (ra.len und23) rfl ?_
  refine KO_val rfl rfl rfl ?_
  refine KO_len rfl rfl rfl (rb.len und23) rfl ?_
  by_cases hlen : a.length = b.length
  · refine KO_bin rfl rfl rfl rfl (neq_i64 (v := false) (decide_eq_true (by omega))) rfl (KO_nil ?_)
    refine K_cond rfl (K_skip ?_)
    refine K_seq (K_seq (K_region ?_))
    refine KO_val rfl rfl rfl ?_
    refine KO_len rfl rfl rfl (ra.len und23) rfl ?_
    refine KO_val rfl rfl rfl (KO_nil ?_)
    refine K_block ?_
    refine K_loop (fun m L h' => h' = h ∧ ∃ i : Nat, m + i = a.length ∧ a.take i = b.take i ∧ L = [(0, v), (1, u), (12, .int .i64 a.length), (13, .int .i64 i)]) ?_ a.length
      ⟨rfl, 0, rfl, by simp, rfl⟩ (by repeat (first | exact Ks.le_nil _ | refine Ks.le_cons rfl ?_))
    rintro m L h' ⟨rfl, i, him, hi, rfl⟩
    refine K_seq (K_region (KO_val rfl rfl rfl (KO_nil ?_)))
    refine K_seq ?_
    refine K_cond2 rfl (fun hv => ?_) (fun hv => ?_)
    · have hv := of_decide_eq_true hv
      have hia : i < a.length := by omega
      have hib : i < b.length := by omega
      refine K_skip ?_
      refine K_seq (K_block (K_seq (K_region (KO_val rfl rfl rfl (KO_val rfl rfl rfl (KO_nil ?_))))))
      refine K_seq (K_draw ?_)
      obtain ⟨p, hp1, hp2⟩ := ra.at1 und23 sz3 agg3 (ik := .i64) (ints_get (List.getElem?_eq_getElem hia))
      obtain ⟨q, hq1, hq2⟩ := rb.at1 und23 sz3 agg3 (ik := .i64) (ints_get (List.getElem?_eq_getElem hib))
      refine KO_val rfl rfl rfl ?_
      refine KO_val rfl rfl rfl ?_
      refine KO_index rfl rfl rfl rfl hp1 rfl ?_
      refine KO_load rfl rfl rfl hp2 rfl ?_
      refine KO_val rfl rfl rfl ?_
      refine KO_val rfl rfl rfl ?_
      refine KO_index rfl rfl rfl rfl hq1 rfl ?_
      refine KO_load rfl rfl rfl hq2 rfl ?_
      by_cases hx : a[i] = b[i]
      · refine KO_bin rfl rfl rfl rfl (neq_i64 (v := false) (decide_eq_true hx)) rfl (KO_nil ?_)
        refine K_cond rfl (K_skip ?_)
        refine K_region ?_
        refine KO_bin rfl rfl rfl rfl (add_i64 (c := ((i + 1 : Nat) : Int)) (by omega) (by omega) (by omega)) rfl ?_
        refine KO_val rfl rfl rfl (KO_nil ?_)
        refine ⟨m - 1, _, by omega, ⟨rfl, i + 1, by omega, take_snoc_eq hia hib hi hx, rfl⟩, ?_⟩
        repeat (first | exact Ks.le_nil _ | refine Ks.le_cons rfl ?_)
      · refine KO_bin rfl rfl rfl rfl (neq_i64 (v := true) (decide_eq_false hx)) rfl (KO_nil ?_)
        refine K_cond rfl ?_
        refine K_seq (K_region (KO_val rfl rfl rfl (KO_nil ?_)))
        refine K_ret ⟨_, rfl, ?_, rfl⟩
        have : decide (a = b) = false := by
          rw [decide_eq_false_iff_not]
          intro q; subst q; exact hx rfl
        rw [this]; rfl
    · have hv := of_decide_eq_false hv
      refine K_exit ?_
      show K Tryz.prog Xh _ _ _ _ _ _
      refine K_seq (K_region (KO_val rfl rfl rfl (KO_nil ?_)))
      refine K_ret ⟨_, rfl, ?_, rfl⟩
      have : decide (a = b) = true := by
        rw [decide_eq_true_iff]
        rw [List.take_of_length_le (by omega), List.take_of_length_le (by omega)] at hi
        exact hi
      rw [this]; rfl
  · refine KO_bin rfl rfl rfl rfl (neq_i64 (v := true) (decide_eq_false (by omega))) rfl (KO_nil ?_)
    refine K_cond rfl ?_
    refine K_seq (K_region (KO_val rfl rfl rfl (KO_nil ?_)))
    refine K_ret ⟨_, rfl, ?_, rfl⟩
    have : decide (a = b) = false := by
      rw [decide_eq_false_iff_not]
      intro q; subst q; exact hlen rfl
    rw [this]; rfl
end Go.Proofs.Xx
