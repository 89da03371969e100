/-
  Lists of numbers: cloned, searched, compared, sorted.
-/
import Derived.Test.YticddjokabmfmaaGreatDoorM11
import Derived.Test.YticddjokabmfmaaGreatDoorM7
namespace Go.Proofs.Xx
open Go Go.Proofs
set_option linter.unusedSimpArgs false
set_option linter.unusedVariables false
set_option linter.unusedSectionVars false
set_option maxRecDepth 100000
set_option maxHeartbeats 4000000
abbrev FV := Nat × Array Value
theorem cloneI_ok {h0 : AH} (w : WfH h0) (v : Value) (a : List Int) (r : RdL h0 v 1 eI a) (hl : a.length ≤ 1000000) : Fn Tryz.prog Xh 29 [v] h0 (fun u h' => Hs h0 h' [.sl u 3 1 eI a]) := by
 have S := Hs.start w
 have r0 := r
 rcases r with ⟨rfl, h1, -⟩ | ⟨b, o, cap, cc, e, s, q, rfl, h1, h2⟩
 ·obtain rfl : a = [] := List.length_eq_zero_iff.1 h1
  refine Fn_K (by first | rfl) Tryz.func29 rfl rfl ?_
  all_goals (repeat' (first | refine K_seq ?_ | refine k_cond rfl ?_ | (refine K_region (id := 0) ?_; refine mv ?_; refine KO_nil ?_) | (refine K_region (id := 1) ?_; refine mv ?_; refine vl ?_; refine KO_nil ?_) | (refine K_region (id := 2) ?_; refine mv ?_; refine KO_nil ?_)))
  refine K_ret ⟨_, rfl, ?_⟩
  exact S.nilS
 ·refine Fn_K (by first | rfl) Tryz.func29 rfl rfl ?_
  all_goals (repeat' (first | refine K_seq ?_ | refine k_cond rfl ?_ | refine K_skip ?_ | (refine K_region (id := 0) ?_; refine mv ?_; refine KO_nil ?_) | (refine K_region (id := 1) ?_; refine mv ?_; refine vl ?_; refine KO_nil ?_) | (refine K_region (id := 3) ?_; skip)))
  refine nw 1 eI S ?_; clear S; intro u h S; (refine mv ?_)
  refine apd S rfl rfl (r0.ext w S.ext) ?_; clear S; intro v' h S; (refine mv ?_; refine KO_nil ?_)
  all_goals (repeat' (fail))
  refine K_ret ⟨_, rfl, ?_⟩
  exact S
theorem indexN_ok {h0 : AH} (w : WfH h0) (v : Value) (l : List Int) (hr : RdL h0 v 1 eI l) (hl : l.length ≤ 1000000) (k : Int) : Fn Tryz.prog Xh 49 [v, .int .i64 k] h0 (fun r h' => IdxIs r (fun i => l.getD i default = k) l.length ∧ Hs h0 h' []) := by
 have S := Hs.start w
 refine Fn_K (by first | rfl) Tryz.func49 rfl rfl ?_
 all_goals (repeat' (first | refine K_seq ?_ | refine k_block ?_ | (refine K_region (id := 0) ?_; refine mv ?_; refine KO_nil ?_) | (refine K_region (id := 1) ?_; refine mv ?_; refine lnB S ?_; refine mv ?_; refine KO_nil ?_)))
 refine k_loop (σ := Nat) (fun i h' => Hs h0 h' [] ∧ i ≤ l.length ∧ ∀ j, j < i → ¬ l.getD j default = k) (fun i => l.length - i) (fun i => [(0, v), (1, .int .i64 k), (7, .int .i64 l.length), (8, .int .i64 i)]) 0 (by repeat (first | exact Ks.le_nil _ | refine Ks.le_cons rfl ?_)) ?_ ?_
 ·exact ⟨S, Nat.zero_le _, fun j hj => absurd hj (Nat.not_lt_zero _)⟩
 clear S
 rintro i h ⟨S, h1, h2⟩
 all_goals (repeat' (first | refine K_seq ?_ | refine k_cond rfl ?_ | refine K_skip ?_ | refine K_exit ?_ | refine k_block ?_ | (refine K_region (id := 2) ?_; (first | (refine cS ?_ ?_ <;> intro hc)) <;> (refine KO_nil ?_)) | (refine K_region (id := 3) ?_; refine mv ?_; refine mv ?_; refine KO_nil ?_) | (refine K_region (id := 4) ?_; refine mv ?_; refine mv ?_; refine mv ?_; refine ixB S ?_; refine lEB S ?_; (first | (refine cS ?_ ?_ <;> intro hc)) <;> (refine KO_nil ?_)) | (refine K_region (id := 5) ?_; refine mv ?_; refine mv ?_; refine KO_nil ?_) | (refine K_region (id := 6) ?_; refine ad ?_; refine mv ?_; refine KO_nil ?_) | (refine K_region (id := 7) ?_; refine mv ?_; refine KO_nil ?_)))
 all_goals (try simp only [Int.toNat_natCast] at *)
 ·refine K_ret ⟨_, rfl, ?_⟩
  exact ⟨.inl ⟨i, by omega, rfl, hc.symm, h2⟩, S⟩
 ·refine ⟨i + 1, ?_, ?_, (by repeat (first | exact Ks.le_nil _ | refine Ks.le_cons rfl ?_))⟩
  ·show l.length - (i + 1) < l.length - i; omega
  ·refine ⟨S, by omega, fun j hj => ?_⟩
   rcases Nat.lt_or_ge j i with q | q
   ·exact h2 j q
   ·obtain rfl : j = i := by omega
    exact fun q => hc q.symm
 ·refine K_ret ⟨_, rfl, ?_⟩
  exact ⟨.inr ⟨rfl, fun j hj => h2 j (by omega)⟩, S⟩
theorem containsI_ok {h0 : AH} (w : WfH h0) (v : Value) (l : List Int) (hr : RdL h0 v 1 eI l) (hl : l.length ≤ 1000000) (k : Int) : Fn Tryz.prog Xh 46 [v, .int .i64 k] h0 (fun r h' => BoolIs r (∃ i, i < l.length ∧ l.getD i default = k) ∧ Hs h0 h' []) := by
 have S := Hs.start w
 refine Fn_K (by first | rfl) Tryz.func46 rfl rfl ?_
 all_goals (repeat' (first | refine K_seq ?_ | (refine K_region (id := 0) ?_; refine mv ?_; refine KO_nil ?_) | (refine K_region (id := 1) ?_; refine mv ?_; refine mv ?_)))
 (refine KO_fn rfl rfl rfl rfl rfl ((indexN_ok S.wf v l hr hl k).mono ?_); rintro _ h ⟨⟨i, hi, rfl, hq, hn⟩ | ⟨rfl, hn⟩, x⟩) <;> (replace S := S.join0 x; clear x; (first | refine cT ?_ | refine cF ?_) <;> (refine mv ?_; refine KO_nil ?_))
 all_goals (repeat' (fail))
 all_goals (try omega)
 all_goals (refine K_ret ⟨_, rfl, ?_⟩)
 ·exact ⟨.inl ⟨rfl, i, hi, hq⟩, S⟩
 ·exact ⟨.inr ⟨rfl, fun ⟨j, hj, hp⟩ => hn j hj hp⟩, S⟩
def cmpI (x y : Int) : Int := if x < y then -1 else if y < x then 1 else 0
abbrev ltI (x y : Int) : Prop := x < y
theorem ltI_ord : WOrd ltI := ⟨fun x h => by unfold ltI at h; omega, fun h1 h2 => by unfold ltI at *; omega, fun h1 h2 => by unfold ltI at *; omega⟩
theorem isNaNI_ok {h0 : AH} (w : WfH h0) (x : Int) : Fn Tryz.prog Xh 79 [.int .i64 x] h0 (fun v h' => v = .bool false ∧ Hs h0 h' []) := by
 have S := Hs.start w
 refine Fn_K (by first | rfl) Tryz.func79 rfl rfl ?_
 all_goals (repeat' (first | refine K_seq ?_ | (refine K_region (id := 0) ?_; refine mv ?_; refine KO_nil ?_) | (refine K_region (id := 1) ?_; refine mv ?_; refine mv ?_; (refine cF ?_) <;> (refine mv ?_; refine KO_nil ?_))))
 refine K_ret ⟨_, rfl, ?_⟩
 exact ⟨rfl, S⟩
theorem lessI_ok {h0 : AH} (w : WfH h0) (x y : Int) : Fn Tryz.prog Xh 52 [.int .i64 x, .int .i64 y] h0 (fun v h' => BoolIs v (ltI x y) ∧ Hs h0 h' []) := by
 have S := Hs.start w
 refine Fn_K (by first | rfl) Tryz.func52 rfl rfl ?_
 all_goals (repeat' (first | refine K_seq ?_ | (refine K_region (id := 0) ?_; refine mv ?_; refine KO_nil ?_) | (refine K_region (id := 1) ?_; refine mv ?_)))
 (refine KO_fn rfl rfl rfl rfl rfl ((isNaNI_ok S.wf x).mono ?_); rintro _ h ⟨rfl, x⟩) <;> (replace S := S.join0 x; clear x; refine mv ?_; refine off ?_; (first | (refine off ?_; refine off ?_; refine vl ?_; refine mv ?_; refine mv ?_; refine mv ?_; (first | (first | (refine cS ?_ ?_ <;> intro hc))) <;> (refine vl ?_; refine mv ?_; refine KO_nil ?_))))
 all_goals (repeat' (fail))
 all_goals (refine K_ret ⟨_, rfl, ?_⟩)
 ·exact ⟨.inl ⟨rfl, by assumption⟩, S⟩
 ·exact ⟨.inr ⟨rfl, by assumption⟩, S⟩
def ltL : List Int → List Int → Prop
 | [], [] => False
 | [], _ :: _ => True
 | _ :: _, [] => False
 | a :: l, b :: m => a < b ∨ (a = b ∧ ltL l m)
def CmpR (d : Int) (a b : List Int) : Prop := (d < 0 ∧ ltL a b) ∨ (d = 0 ∧ a = b) ∨ (0 < d ∧ ltL b a)
theorem drop_cons {l : List Int} {i : Nat} (h : i < l.length) : l.drop i = l.getD i default :: l.drop (i + 1) := by
 rw [List.drop_eq_getElem_cons h]
 simp [List.getD, h]
theorem CmpR.step {a b : List Int} {i : Nat} (hi : ∀ d, CmpR d (a.drop i) (b.drop i) → CmpR d a b) (ha : i < a.length) (hb : i < b.length) (e : a.getD i default = b.getD i default) : ∀ d, CmpR d (a.drop (i + 1)) (b.drop (i + 1)) → CmpR d a b := fun d k => hi d (by
 rw [drop_cons ha, drop_cons hb, e]
 rcases k with ⟨k1, k2⟩ | ⟨k1, k2⟩ | ⟨k1, k2⟩
 ·exact .inl ⟨k1, .inr ⟨rfl, k2⟩⟩
 ·exact .inr (.inl ⟨k1, by rw [k2]⟩)
 ·exact .inr (.inr ⟨k1, .inr ⟨rfl, k2⟩⟩))
theorem indexFN_ok {h0 : AH} (w : WfH h0) (v : Value) (l : List Int) (hv : RdL h0 v 1 eI l) (hl : l.length ≤ 1000000) (f : FV) (q : Int → Prop)
 (C : ∀ h i, Ext h0 h → i < l.length → (∀ j, j < i → ¬ q (l.getD j default)) → Fn Tryz.prog Xh f.1 (.int .i64 (l.getD i default) :: f.2.toList) h (fun r h' => BoolIs r (q (l.getD i default)) ∧ Hs h h' [])) :
 Fn Tryz.prog Xh 48 [v, .func (.func f.1) #[] f.2] h0 (fun r h' => ((r = .int .i64 (-1) ∧ ∀ i, i < l.length → ¬ q (l.getD i default)) ∨ ∃ i : Nat, r = .int .i64 i ∧ i < l.length ∧ q (l.getD i default)) ∧ Hs h0 h' []) := by
 have S := Hs.start w
 refine Fn_K (by first | rfl) Tryz.func48 rfl rfl ?_
 all_goals (repeat' (first | refine K_seq ?_ | refine k_block ?_ | (refine K_region (id := 0) ?_; refine mv ?_; refine KO_nil ?_) | (refine K_region (id := 1) ?_; refine mv ?_; refine lnB S ?_; refine mv ?_; refine KO_nil ?_)))
 refine k_loop (σ := Nat) (fun i h' => Hs h0 h' [] ∧ i ≤ l.length ∧ ∀ j, j < i → ¬ q (l.getD j default)) (fun i => l.length - i) (fun i => [(0, v), (1, .func (.func f.1) #[] f.2), (7, .int .i64 l.length), (8, .int .i64 i)]) 0 (by repeat (first | exact Ks.le_nil _ | refine Ks.le_cons rfl ?_)) ?_ ?_
 ·exact ⟨S, Nat.zero_le _, fun j hj => absurd hj (Nat.not_lt_zero _)⟩
 clear S
 rintro i h ⟨S, h1, h2⟩
 all_goals (repeat' (first | refine K_seq ?_ | refine k_cond rfl ?_ | refine K_skip ?_ | refine K_exit ?_ | refine k_block ?_ | (refine K_region (id := 2) ?_; (first | (refine cS ?_ ?_ <;> intro hc)) <;> (refine KO_nil ?_)) | (refine K_region (id := 3) ?_; refine mv ?_; refine mv ?_; refine KO_nil ?_) | (refine K_region (id := 4) ?_; refine mv ?_; refine mv ?_; refine mv ?_; refine ixB S ?_; refine lEB S ?_) | (refine K_region (id := 7) ?_; refine mv ?_; refine KO_nil ?_)))
 ·try simp only [Int.toNat_natCast] at *
  (refine KO_call rfl rfl rfl rfl ((C h i S.ext (by omega) h2).mono ?_); rintro _ h ⟨⟨rfl, hq⟩ | ⟨rfl, hq⟩, x⟩) <;> (replace S := S.join0 x; clear x; refine KO_nil ?_)
  ·all_goals (repeat' (first | refine K_seq ?_ | refine k_cond rfl ?_ | (refine K_region (id := 5) ?_; refine mv ?_; refine mv ?_; refine KO_nil ?_)))
   refine K_ret ⟨_, rfl, ?_⟩
   exact ⟨.inr ⟨i, rfl, by omega, hq⟩, S⟩
  ·all_goals (repeat' (first | refine k_cond rfl ?_ | refine K_skip ?_ | (refine K_region (id := 6) ?_; refine ad ?_; refine mv ?_; refine KO_nil ?_)))
   refine ⟨i + 1, ?_, ?_, (by repeat (first | exact Ks.le_nil _ | refine Ks.le_cons rfl ?_))⟩
   ·show l.length - (i + 1) < l.length - i; omega
   ·exact ⟨S, by omega, nxtD h2 hq⟩
 ·all_goals (repeat' (fail))
  refine K_ret ⟨_, rfl, ?_⟩
  exact ⟨.inl ⟨rfl, fun j hj => h2 j (by omega)⟩, S⟩
theorem containsFN_ok {h0 : AH} (w : WfH h0) (v : Value) (l : List Int) (hv : RdL h0 v 1 eI l) (hl : l.length ≤ 1000000) (f : FV) (q : Int → Prop)
 (C : ∀ h i, Ext h0 h → i < l.length → (∀ j, j < i → ¬ q (l.getD j default)) → Fn Tryz.prog Xh f.1 (.int .i64 (l.getD i default) :: f.2.toList) h (fun r h' => BoolIs r (q (l.getD i default)) ∧ Hs h h' [])) :
 Fn Tryz.prog Xh 17 [v, .func (.func f.1) #[] f.2] h0 (fun r h' => BoolIs r (∃ i, i < l.length ∧ q (l.getD i default)) ∧ Hs h0 h' []) := by
 have S := Hs.start w
 refine Fn_K (by first | rfl) Tryz.func17 rfl rfl ?_
 all_goals (repeat' (first | refine K_seq ?_ | (refine K_region (id := 0) ?_; refine mv ?_; refine KO_nil ?_) | (refine K_region (id := 1) ?_; refine mv ?_; refine mv ?_)))
 (refine KO_fn rfl rfl rfl rfl rfl ((indexFN_ok S.wf v l (hv.ext w S.ext) hl f q (fun h i x => C h i (S.ext.trans x))).mono ?_); rintro _ h ⟨⟨rfl, hq⟩ | ⟨i, rfl, hi, hq⟩, x⟩) <;> (replace S := S.join0 x; clear x; (first | refine cT ?_ | refine cF ?_) <;> (refine mv ?_; refine KO_nil ?_))
 all_goals (all_goals (repeat' (fail)))
 all_goals (try omega)
 all_goals (refine K_ret ⟨_, rfl, ?_⟩)
 ·exact ⟨.inr ⟨rfl, fun ⟨j, hj, q⟩ => hq j hj q⟩, S⟩
 ·exact ⟨.inl ⟨rfl, i, hi, hq⟩, S⟩
theorem insI_o {h0 h : AH} {rs : List Rs} {v : Value} {l : List Int} (a b : Nat) (S : Hs h0 h (.sl v 3 1 eI l :: rs)) (hab : a ≤ b) (hb : b ≤ l.length) (hl : l.length ≤ 1000000) :
 Fn Tryz.prog Xh 80 [v, .int .i64 a, .int .i64 b] h (fun _ h' => ∃ l', Sw a b l l' ∧ Srt ltI a b l' ∧ Hs h0 h' (.sl v 3 1 eI l' :: rs)) := by
 have W : WOrd ltI := ltI_ord
 refine Fn_K (by first | rfl) Tryz.func80 rfl rfl ?_
 all_goals (repeat' (first | refine K_seq ?_ | refine k_block ?_ | (refine K_region (id := 0) ?_; refine mv ?_; refine ad ?_; refine mv ?_; refine KO_nil ?_)))
 refine k_loop (σ := Nat × List Int) (fun (i, m) h' => Hs h0 h' (.sl v 3 1 eI m :: rs) ∧ a < i ∧ Sw a b l m ∧ Srt ltI a (min i b) m) (fun (i, m) => b - i) (fun (i, m) => [(0, v), (1, .int .i64 a), (2, .int .i64 b), (6, .int .i64 i)]) (a + 1, l) (by repeat (first | exact Ks.le_nil _ | refine Ks.le_cons rfl ?_)) ?_ ?_
 ·exact ⟨S, by omega, .refl _, fun i j q1 q2 q3 => by omega⟩
 clear S
 rintro ⟨i, m⟩ h ⟨S, h1, h2, h3⟩
 have hml := h2.len
 all_goals (repeat' (first | refine K_seq ?_ | refine k_cond rfl ?_ | refine K_skip ?_ | refine K_exit ?_ | refine k_block ?_ | (refine K_region (id := 1) ?_; refine mv ?_; refine mv ?_; (first | (refine cS ?_ ?_ <;> intro hc)) <;> (refine KO_nil ?_)) | (refine K_region (id := 3) ?_; refine mv ?_; refine mv ?_; refine KO_nil ?_)))
 ·have hib : i < b := by omega
  rw [Nat.min_eq_left (by omega)] at h3
  refine k_loop (σ := Nat × List Int) (fun (j, n) h' => Hs h0 h' (.sl v 3 1 eI n :: rs) ∧ a ≤ j ∧ j ≤ i ∧ Sw a b l n ∧ InsI ltI a i j n) (fun (j, n) => j) (fun (j, n) => [(0, v), (1, .int .i64 a), (2, .int .i64 b), (6, .int .i64 i), (7, .int .i64 j)]) (i, m) (by repeat (first | exact Ks.le_nil _ | refine Ks.le_cons rfl ?_)) ?_ ?_
  ·exact ⟨S, by omega, Nat.le_refl _, h2, InsI.start h3⟩
  clear S h2 h3 hml
  rintro ⟨j, n⟩ h ⟨S, k1, k2, k3, k4⟩
  have hnl := k3.len
  skip
  all_goals (repeat' (first | refine K_seq ?_ | refine k_cond rfl ?_ | refine K_exit ?_ | (refine K_region (id := 2) ?_; refine mv ?_; refine ad ?_; refine mv ?_; refine KO_nil ?_) | (refine K_draw (id := 4) ?_; refine mv ?_; refine mv ?_; (first | (refine cS ?_ ?_ <;> intro hc)) <;> (refine mv ?_; (first | refine off ?_ | refine mv ?_); (first | refine off ?_ | refine mv ?_); (first | refine off ?_ | (refine ixS2 S rfl rfl ?_)); (first | refine off ?_ | (refine lES2 S rfl rfl ?_)); (first | refine off ?_ | refine mv ?_); (first | refine off ?_ | refine mv ?_); (first | refine off ?_ | (refine sb ?_)); (first | refine off ?_ | (refine ixS2 S rfl rfl ?_)); (first | refine off ?_ | (refine lES2 S rfl rfl ?_)); (first | (refine off ?_; refine vl ?_; refine KO_nil ?_) | skip)))))
  ·simp only [toNat_pred, toNat_succ, toNat_sum, Int.toNat_natCast]
   (refine KO_fn rfl rfl rfl rfl rfl ((lessI_ok S.wf _ _).mono ?_); rintro _ h ⟨⟨rfl, hq⟩ | ⟨rfl, hq⟩, x⟩) <;> (replace S := S.join0 x; clear x; refine vl ?_; refine KO_nil ?_)
   ·all_goals (repeat' (first | refine K_seq ?_ | refine k_cond rfl ?_ | refine K_skip ?_ | refine k_block ?_ | (refine K_region (id := 5) ?_; refine mv ?_; refine sb ?_; refine mv ?_; refine KO_nil ?_) | (refine K_draw (id := 6) ?_; refine mv ?_; refine mv ?_; refine mv ?_; refine mv ?_; refine sb ?_; refine mv ?_; refine mv ?_; refine sb ?_; refine ixS2 S rfl rfl ?_; refine lES2 S rfl rfl ?_; refine mv ?_; refine mv ?_; refine ixS2 S rfl rfl ?_; refine lES2 S rfl rfl ?_; refine ixS2 S rfl rfl ?_; (first | (refine sE2 S rfl rfl ?_; clear S; intro h S)); refine ixS2 S rfl rfl ?_; (first | (refine sE2 S rfl rfl ?_; clear S; intro h S)); refine KO_nil ?_)))
    simp only [toNat_pred, toNat_succ, toNat_sum, Int.toNat_natCast] at S
    refine ⟨(j - 1, swp n j (j - 1)), ?_, ?_, (by repeat (first | exact Ks.le_nil _ | refine Ks.le_cons rfl ?_ | refine Ks.le_int ?_))⟩
    ·show j - 1 < j; omega
    ·exact ⟨S, by omega, by omega, k3.step j (j - 1) ⟨by omega, by omega⟩ ⟨by omega, by omega⟩ (by omega), k4.next W (by omega) k2 (by omega) hq⟩
   ·all_goals (repeat' (first | refine k_cond rfl ?_ | refine K_exit ?_ | (refine K_region (id := 2) ?_; refine mv ?_; refine ad ?_; refine mv ?_; refine KO_nil ?_)))
    refine ⟨(i + 1, n), ?_, ?_, (by repeat (first | exact Ks.le_nil _ | refine Ks.le_cons rfl ?_))⟩
    ·show b - (i + 1) < b - i; omega
    ·simp only [Nat.min_eq_left (show i + 1 ≤ b by omega)]
     exact ⟨S, by omega, k3, k4.done W (.inr hq)⟩
  ·refine ⟨(i + 1, n), ?_, ?_, (by repeat (first | exact Ks.le_nil _ | refine Ks.le_cons rfl ?_))⟩
   ·show b - (i + 1) < b - i; omega
   ·simp only [Nat.min_eq_left (show i + 1 ≤ b by omega)]
    exact ⟨S, by omega, k3, k4.done W (.inl (by omega))⟩
 ·rw [Nat.min_eq_right (by omega)] at h3
  refine ⟨_, rfl, ?_⟩
  exact ⟨m, h2, h3, S⟩
theorem equalI_ok {h0 : AH} (w : WfH h0) (v u : Value) (a b : List Int) (ra : RdL h0 v 1 eI a) (rb : RdL h0 u 1 eI b) (ha : a.length ≤ 1000000) : Fn Tryz.prog Xh 20 [v, u] h0 (fun r h' => BoolIs r (a = b) ∧ Hs h0 h' []) := by
 have S := Hs.start w
 refine Fn_K (by first | rfl) Tryz.func20 rfl rfl ?_
 all_goals (repeat' (first | refine K_seq ?_ | refine k_cond rfl ?_ | refine K_skip ?_ | (refine K_region (id := 0) ?_; refine mv ?_; refine KO_nil ?_) | (refine K_region (id := 1) ?_; refine mv ?_; refine lnB S ?_; refine mv ?_; refine lnB S ?_; (first | (refine cS ?_ ?_ <;> intro hc)) <;> (refine KO_nil ?_)) | (refine K_region (id := 2) ?_; refine mv ?_; refine KO_nil ?_)))
 ·refine K_ret ⟨_, rfl, ?_⟩
  exact ⟨.inr ⟨rfl, fun q => by subst q; exact hc rfl⟩, S⟩
 have hl : a.length = b.length := by omega
 skip
 all_goals (repeat' (first | refine k_block ?_ | (refine K_region (id := 3) ?_; refine mv ?_; refine lnB S ?_; refine mv ?_; refine KO_nil ?_)))
 refine k_loop (σ := Nat) (fun i h' => Hs h0 h' [] ∧ i ≤ a.length ∧ ∀ j, j < i → a.getD j default = b.getD j default) (fun i => a.length - i) (fun i => [(0, v), (1, u), (12, .int .i64 a.length), (13, .int .i64 i)]) 0 (by repeat (first | exact Ks.le_nil _ | refine Ks.le_cons rfl ?_)) ?_ ?_
 ·exact ⟨S, Nat.zero_le _, fun j hj => absurd hj (Nat.not_lt_zero _)⟩
 clear S
 rintro i h ⟨S, h1, h2⟩
 all_goals (repeat' (first | refine K_seq ?_ | refine k_cond rfl ?_ | refine K_skip ?_ | refine K_exit ?_ | refine k_block ?_ | (refine K_region (id := 4) ?_; (first | (refine cS ?_ ?_ <;> intro hc)) <;> (refine KO_nil ?_)) | (refine K_region (id := 5) ?_; refine mv ?_; refine mv ?_; refine KO_nil ?_) | (refine K_draw (id := 6) ?_; refine mv ?_; refine mv ?_; refine ixB S ?_; refine lEB S ?_; refine mv ?_; refine mv ?_; refine ixB S ?_; refine lEB S ?_; (first | (refine cS ?_ ?_ <;> intro hc)) <;> (refine KO_nil ?_)) | (refine K_region (id := 7) ?_; refine mv ?_; refine KO_nil ?_)))
 all_goals (try simp only [Int.toNat_natCast] at *)
 ·refine K_ret ⟨_, rfl, ?_⟩
  exact ⟨.inr ⟨rfl, fun q => by subst q; exact hc rfl⟩, S⟩
 ·all_goals (repeat' (first | (refine K_region (id := 8) ?_; refine ad ?_; refine mv ?_; refine KO_nil ?_)))
  refine ⟨i + 1, ?_, ?_, (by repeat (first | exact Ks.le_nil _ | refine Ks.le_cons rfl ?_))⟩
  ·show a.length - (i + 1) < a.length - i; omega
  ·exact ⟨S, by omega, nxtD h2 (by omega)⟩
 ·all_goals (repeat' (first | (refine K_region (id := 9) ?_; refine mv ?_; refine KO_nil ?_)))
  refine K_ret ⟨_, rfl, ?_⟩
  refine ⟨.inl ⟨rfl, List.ext_getElem hl fun j k1 k2 => ?_⟩, S⟩
  have := h2 j (by omega)
  rw [List.getD_eq_getElem?_getD, List.getD_eq_getElem?_getD, List.getElem?_eq_getElem k1, List.getElem?_eq_getElem k2] at this
  exact this
theorem sortI_ok {h0 h : AH} {rs : List Rs} {v : Value} {l : List Int} (S : Hs h0 h (.sl v 3 1 eI l :: rs)) (hl : l.length ≤ 12) :
 Fn Tryz.prog Xh 23 [v] h (fun _ h' => ∃ l' : List Int, l'.Perm l ∧ l'.Pairwise (· ≤ ·) ∧ Hs h0 h' (.sl v 3 1 eI l' :: rs)) := by
 have hk : (lenTab.getD l.length 0).toNat < 256 := UInt8.toNat_lt _
 have pdq : ∀ (lim : Nat) (h : AH), Hs h0 h (.sl v 3 1 eI l :: rs) → Fn Tryz.prog Xh 53 [v, .int .i64 0, .int .i64 l.length, .int .i64 lim] h (fun _ h' => ∃ l', Sw 0 l.length l l' ∧ Srt ltI 0 l.length l' ∧ Hs h0 h' (.sl v 3 1 eI l' :: rs)) := by
  intro lim h S
  refine Fn_K (by first | rfl) Tryz.func53 rfl rfl ?_
  all_goals (repeat' (first | refine K_seq ?_ | refine k_block ?_ | (refine K_region (id := 0) ?_; refine mv ?_; refine KO_nil ?_) | (refine K_region (id := 1) ?_; refine mv ?_; refine KO_nil ?_)))
  refine k_loop (σ := Unit) (fun _ h' => Hs h0 h' (.sl v 3 1 eI l :: rs)) (fun _ => 0) (fun _ => [(0, v), (1, .int .i64 0), (2, .int .i64 l.length), (3, .int .i64 lim), (8, .bool true), (9, .bool true)]) () (by repeat (first | exact Ks.le_nil _ | refine Ks.le_cons rfl ?_)) ?_ ?_
  ·exact S
  clear S
  rintro - h S
  all_goals (repeat' (first | refine K_seq ?_ | refine k_cond rfl ?_ | refine k_block ?_ | (refine K_region (id := 2) ?_; refine mv ?_; refine mv ?_; refine sb ?_; refine mv ?_; refine KO_nil ?_) | (refine K_region (id := 3) ?_; refine mv ?_; (refine cT ?_) <;> (refine KO_nil ?_)) | (refine K_region (id := 4) ?_; refine mv ?_; refine mv ?_; refine mv ?_; skip)))
  (refine KO_fn rfl rfl rfl rfl rfl ((insI_o 0 l.length S (Nat.zero_le _) (Nat.le_refl _) (by omega)).mono ?_); rintro _ h ⟨l2, g1, g2, S2⟩) <;> (replace S := S2; clear S2; refine KO_nil ?_)
  all_goals (repeat' (fail))
  refine K_ret ⟨_, rfl, ?_⟩
  exact ⟨l2, g1, g2, S⟩
 refine Fn_K (by first | rfl) Tryz.func23 rfl rfl ?_
 all_goals (repeat' (first | refine K_seq ?_ | (refine K_region (id := 0) ?_; refine mv ?_; refine lnS S rfl rfl ?_; refine mv ?_; refine KO_nil ?_) | (refine K_region (id := 1) ?_; refine mv ?_; refine mv ?_; refine mv ?_; refine cW ?_)))
 (refine KO_fn rfl rfl rfl rfl rfl ((len_ok S.wf l.length (by omega)).mono ?_); rintro _ h ⟨rfl, x⟩) <;> (replace S := S.join0 x; clear x)
 (refine KO_fn rfl rfl rfl rfl rfl ((pdq _ h S).mono ?_); rintro _ h ⟨l2, g1, g2, S2⟩) <;> (replace S := S2; clear S2; refine KO_nil ?_)
 all_goals (repeat' (fail))
 refine ⟨_, rfl, ?_⟩
 refine ⟨l2, g1.perm, ?_, S⟩
 rw [List.pairwise_iff_getElem]
 intro i j hi hj hij
 have hll := g1.len
 have := g2 i j (Nat.zero_le _) hij (by omega)
 rw [List.getD_eq_getElem?_getD, List.getD_eq_getElem?_getD, List.getElem?_eq_getElem hi, List.getElem?_eq_getElem hj] at this
 unfold ltI at this
 simp only [Option.getD_some] at this
 omega
end Go.Proofs.Xx
namespace Go.Proofs.Xx
set_option linter.unusedSectionVars false
set_option linter.unusedSimpArgs false
set_option linter.unusedVariables false
structure Met (d : Int → Int → Int) : Prop where
 nn : ∀ a b, 0 ≤ d a b
 z : ∀ a, d a a = 0
 sym : ∀ a b, d a b = d b a
 tri : ∀ a b c, d a c ≤ d a b + d b c
def plen (d : Int → Int → Int) : Int → List Int → Int → Int
 | a, [], b => d a b
 | a, t :: l, b => d a t + plen d t l b
theorem plen_app {d : Int → Int → Int} : ∀ (l : List Int) (a t : Int) (r : List Int) (b : Int), plen d a (l ++ t :: r) b = plen d a l t + plen d t r b
 | [], a, t, r, b => rfl
 | x :: l, a, t, r, b => by
  rw [List.cons_append, plen, plen, plen_app l x t r b]; omega
theorem plen_rev {d : Int → Int → Int} (m : Met d) : ∀ (l : List Int) (a b : Int), plen d a l b = plen d b l.reverse a
 | [], a, b => m.sym a b
 | x :: l, a, b => by
  rw [List.reverse_cons, plen_app, plen, plen, plen_rev m l x b, m.sym a x]; omega
theorem plen_ge {d : Int → Int → Int} (m : Met d) : ∀ (l : List Int) (a b : Int), d a b ≤ plen d a l b
 | [], a, b => Int.le_refl _
 | x :: l, a, b => by
  have h1 := plen_ge m l x b
  have h2 := m.tri a x b
  rw [plen]; omega
theorem plen_nn {d : Int → Int → Int} (m : Met d) (l : List Int) (a b : Int) : 0 ≤ plen d a l b := by
 have h1 := plen_ge m l a b
 have h2 := m.nn a b
 omega
def tour (d : Int → Int → Int) (l : List Int) : Int := plen d (-1) l (-1)
theorem tour_rev {d : Int → Int → Int} (m : Met d) (l : List Int) : tour d l.reverse = tour d l := (plen_rev m l (-1) (-1)).symm
theorem tour_app {d : Int → Int → Int} (m : Met d) : ∀ (l r : List Int), tour d (l ++ r) ≤ tour d l + tour d r := fun l r => by
 match r with
 | [] =>
  rw [List.append_nil]
  have := plen_nn m [] (-1) (-1)
  show tour d l ≤ tour d l + plen d (-1) [] (-1)
  omega
 | t :: r =>
  unfold tour
  rw [plen_app]
  rcases List.eq_nil_or_concat l with rfl | ⟨l', x, rfl⟩
  ·show d (-1) t + plen d t r (-1) ≤ d (-1) (-1) + (d (-1) t + plen d t r (-1))
   have := m.nn (-1) (-1)
   omega
  ·rw [List.concat_eq_append, plen_app, plen_app]
   show _ + d x t + plen d t r (-1) ≤ _ + d x (-1) + (d (-1) t + plen d t r (-1))
   have := m.tri x (-1) t
   omega
def Comp (stops : List Int) : Nat → List Int → List (List Int)
 | 0, done => [done]
 | n + 1, done => stops.flatMap fun t => if t ∈ done then [] else Comp stops n (done ++ [t])
abbrev BestW := List Int × Int
def updW (L : List Int → Int) (s : BestW) (c : List Int) : BestW := if s.2 < 0 ∨ L c < s.2 then (c, L c) else s
theorem updW_keep {L : List Int → Int} : ∀ (l : List (List Int)) (s : BestW), 0 ≤ s.2 → (∀ c ∈ l, s.2 ≤ L c) → l.foldl (updW L) s = s
 | [], s, _, _ => rfl
 | c :: l, s, h, k => by
  have h1 := k c (by simp)
  have e : updW L s c = s := by unfold updW; rw [if_neg (by omega)]
  rw [List.foldl_cons, e]
  exact updW_keep l s h fun x hx => k x (List.mem_cons_of_mem _ hx)
theorem Comp_pre (stops : List Int) : ∀ (n : Nat) (done c : List Int), c ∈ Comp stops n done → ∃ r, c = done ++ r ∧ r.length = n
 | 0, done, c, h => ⟨[], by simpa [Comp] using h, rfl⟩
 | n + 1, done, c, h => by
  rw [Comp, List.mem_flatMap] at h
  obtain ⟨t, ht, h⟩ := h
  split at h
  ·cases h
  ·obtain ⟨r, rfl, hr⟩ := Comp_pre stops n _ c h
   exact ⟨t :: r, by simp, by simp [hr]⟩
theorem Comp_sub (stops : List Int) : ∀ (n : Nat) (done c : List Int), c ∈ Comp stops n done → done.Nodup → (∀ x ∈ done, x ∈ stops) → c.Nodup ∧ ∀ x ∈ c, x ∈ stops
 | 0, done, c, h, h1, h2 => by
  have : c = done := by simpa [Comp] using h
  subst this
  exact ⟨h1, h2⟩
 | n + 1, done, c, h, h1, h2 => by
  rw [Comp, List.mem_flatMap] at h
  obtain ⟨t, ht, h⟩ := h
  split at h
  ·cases h
  ·rename_i hn
   refine Comp_sub stops n _ c h ?_ fun x hx => ?_
   ·rw [List.nodup_append]
    exact ⟨h1, by simp, fun a ha b hb => by rw [List.mem_singleton.1 hb]; rintro rfl; exact hn ha⟩
   ·rcases List.mem_append.1 hx with q | q
    ·exact h2 x q
    ·rw [List.mem_singleton.1 q]; exact ht
theorem Comp_mem (stops : List Int) : ∀ (n : Nat) (done r : List Int), r.length = n → (done ++ r).Nodup → (∀ x ∈ r, x ∈ stops) → done ++ r ∈ Comp stops n done
 | 0, done, r, h, _, _ => by rw [List.length_eq_zero_iff.1 h]; simp [Comp]
 | n + 1, done, [], h, _, _ => by cases h
 | n + 1, done, t :: r, h, h1, h2 => by
  rw [Comp, List.mem_flatMap]
  refine ⟨t, h2 t (by simp), ?_⟩
  have hn : t ∉ done := fun q => by
   rw [List.nodup_append] at h1
   exact h1.2.2 t q t (by simp) rfl
  rw [if_neg hn]
  have e : done ++ t :: r = (done ++ [t]) ++ r := by simp
  rw [e] at h1 ⊢
  exact Comp_mem stops n _ r (by simpa using h) h1 fun x hx => h2 x (List.mem_cons_of_mem _ hx)
theorem fold_best {L : List Int → Int} (hL : ∀ c, 0 ≤ L c) : ∀ (l : List (List Int)) (s : BestW), (0 ≤ s.2 → s.2 = L s.1) →
 let q := l.foldl (updW L) s
 (q = s ∨ (q.1 ∈ l ∧ q.2 = L q.1)) ∧ (0 ≤ s.2 → q.2 ≤ s.2) ∧ (∀ c ∈ l, 0 ≤ q.2 ∧ q.2 ≤ L c) ∧ (q ≠ s → ∃ a b, l = a ++ q.1 :: b ∧ ∀ c ∈ a, q.2 < L c)
 | [], s, _ => ⟨.inl rfl, fun _ => Int.le_refl _, fun c h => by (cases h), fun h => absurd rfl h⟩
 | c :: l, s, h => by
  rw [List.foldl_cons]
  by_cases e : s.2 < 0 ∨ L c < s.2
  ·have eu : updW L s c = (c, L c) := by unfold updW; rw [if_pos e]
   rw [eu]
   obtain ⟨k1, k2, k3, k4⟩ := fold_best hL l (c, L c) fun _ => rfl
   have k2 := k2 (hL c)
   refine ⟨.inr ?_, fun h0 => by simp only at k2; omega, fun x hx => ?_, fun _ => ?_⟩
   ·rcases k1 with k1 | ⟨k1, k5⟩
    ·rw [k1]; exact ⟨by simp, rfl⟩
    ·exact ⟨List.mem_cons_of_mem _ k1, k5⟩
   ·rcases List.mem_cons.1 hx with rfl | hx
    ·refine ⟨?_, k2⟩
     rcases k1 with k1 | ⟨-, k5⟩
     ·rw [k1]; exact hL _
     ·rw [k5]; exact hL _
    ·exact k3 x hx
   ·by_cases q : l.foldl (updW L) (c, L c) = (c, L c)
    ·rw [q]; exact ⟨[], l, rfl, fun x hx => by cases hx⟩
    ·obtain ⟨a, b, k5, k6⟩ := k4 q
     refine ⟨c :: a, b, by rw [List.cons_append, ← k5], fun x hx => ?_⟩
     rcases List.mem_cons.1 hx with rfl | hx
     ·rcases k1 with k1 | ⟨k1, k7⟩
      ·exact absurd k1 q
      ·simp only at k2
       rcases Int.lt_or_eq_of_le k2 with k8 | k8
       ·exact k8
       ·exfalso
        obtain ⟨j, e1, e2⟩ : ∃ y, (l.foldl (updW L) (x, L x)) = y ∧ y.2 = L x := ⟨_, rfl, k8⟩
        have : l.foldl (updW L) (x, L x) = (x, L x) := by
         refine updW_keep l (x, L x) (hL x) fun y hy => ?_
         have := (k3 y hy).2
         simp only; omega
        exact q this
     ·exact k6 x hx
  ·have eu : updW L s c = s := by unfold updW; rw [if_neg e]
   rw [eu]
   obtain ⟨k1, k2, k3, k4⟩ := fold_best hL l s h
   refine ⟨?_, k2, fun x hx => ?_, fun hne => ?_⟩
   ·rcases k1 with k1 | ⟨k1, k5⟩
    ·exact .inl k1
    ·exact .inr ⟨List.mem_cons_of_mem _ k1, k5⟩
   ·rcases List.mem_cons.1 hx with rfl | hx
    ·have h0 : 0 ≤ s.2 := by omega
     have h2 := k2 h0
     refine ⟨?_, by omega⟩
     rcases k1 with k1 | ⟨-, k5⟩
     ·rw [k1]; exact h0
     ·rw [k5]; exact hL _
    ·exact k3 x hx
   ·obtain ⟨a, b, k5, k6⟩ := k4 hne
    refine ⟨c :: a, b, by rw [List.cons_append, ← k5], fun x hx => ?_⟩
    rcases List.mem_cons.1 hx with rfl | hx
    ·have h0 : 0 ≤ s.2 := by omega
     have h2 := k2 h0
     rcases Int.lt_or_eq_of_le (show (l.foldl (updW L) s).2 ≤ L x by omega) with k8 | k8
     ·exact k8
     ·exfalso
      refine hne (updW_keep l s h0 fun y hy => ?_)
      have := (k3 y hy).2
      omega
    ·exact k6 x hx
inductive Cov (d : Int → Int → Int) : List Int → List Int → Int → Prop where
 | nil {J : List Int} : Cov d J [] 0
 | snoc {J R : List Int} {c x p : Int} (h : Cov d J R c) (hp : p ∈ J ∨ p ∈ R) : Cov d J (R ++ [x]) (c + d x p)
theorem Cov.mono {d : Int → Int → Int} {J J' R : List Int} {c : Int} (h : Cov d J R c) (hs : ∀ x ∈ J, x ∈ J') : Cov d J' R c := by
 induction h with
 | nil => exact .nil
 | snoc _ hp ih => exact .snoc ih (hp.imp (hs _) id)
theorem Cov.shift {d : Int → Int → Int} {J J' R : List Int} {c p v : Int} (h : Cov d (p :: J) R c) (hv : v ∈ J') (hs : ∀ x ∈ J, x ∈ J') : Cov d J' (p :: R) (c + d p v) := by
 generalize hJ : p :: J = K at h
 induction h with
 | nil =>
  have := Cov.snoc (d := d) (J := J') (R := []) (c := 0) (x := p) (p := v) .nil (.inl hv)
  simpa using this
 | @snoc R c x q h hq ih =>
  subst hJ
  have := Cov.snoc (x := x) (p := q) ih (by
   rcases hq with hq | hq
   ·rcases List.mem_cons.1 hq with rfl | hq
    ·exact .inr (by simp)
    ·exact .inl (hs _ hq)
   ·exact .inr (List.mem_cons_of_mem _ hq))
  have e : c + d p v + d x q = c + d x q + d p v := by omega
  rw [e] at this
  exact this
theorem Cov.exch {d : Int → Int → Int} (m : Met d) {J : List Int} {w : Int} {R : List Int} {c : Int} (h : Cov d J R c) : ∀ {v : Int}, v ∈ R → (∀ x ∈ R, ∀ y ∈ J, w ≤ d x y) → R.Nodup →
 ∃ R' c', R'.Perm (R.erase v) ∧ Cov d (v :: J) R' c' ∧ c' + w ≤ c := by
 induction h with
 | nil => intro v hv; cases hv
 | @snoc R c x p h hp ih =>
  intro v hv hw hnd
  rw [List.nodup_append] at hnd
  obtain ⟨nd, -, ndx⟩ := hnd
  have hxR : x ∉ R := fun q => ndx x q x (by simp) rfl
  have hw0 : ∀ y ∈ R, ∀ z ∈ J, w ≤ d y z := fun y hy => hw y (List.mem_append_left _ hy)
  by_cases e : v = x
  ·subst e
   have eR : (R ++ [v]).erase v = R := by rw [List.erase_append_right _ hxR]; simp
   rw [eR]
   by_cases hpR : p ∈ R
   ·obtain ⟨R', c', k1, k2, k3⟩ := ih hpR hw0 nd
    refine ⟨p :: R', c' + d p v, ?_, k2.shift (by simp) fun y hy => List.mem_cons_of_mem _ hy, ?_⟩
    ·exact (k1.cons p).trans (List.perm_cons_erase hpR).symm
    ·have := m.sym v p
     omega
   ·have hpJ : p ∈ J := hp.resolve_right hpR
    have := hw v (by simp) p hpJ
    exact ⟨R, c, .refl _, h.mono fun y hy => List.mem_cons_of_mem _ hy, by omega⟩
  ·have hvR : v ∈ R := by
    rcases List.mem_append.1 hv with q | q
    ·exact q
    ·exact absurd (List.mem_singleton.1 q) e
   obtain ⟨R', c', k1, k2, k3⟩ := ih hvR hw0 nd
   refine ⟨R' ++ [x], c' + d x p, ?_, k2.snoc ?_, by omega⟩
   ·rw [List.erase_append_left _ hvR]
    exact k1.append_right [x]
   ·by_cases q : p = v
    ·exact .inl (by simp [q])
    ·rcases hp with hp | hp
     ·exact .inl (List.mem_cons_of_mem _ hp)
     ·exact .inr (k1.mem_iff.2 ((List.mem_erase_of_ne q).2 hp))
inductive Prim (d : Int → Int → Int) : List Int → List Int → Int → Prop where
 | nil {J : List Int} : Prim d J [] 0
 | step {J L : List Int} {c v u : Int} (hv : v ∈ L) (hu : u ∈ J) (hm : ∀ x ∈ L, ∀ y ∈ J, d v u ≤ d x y) (h : Prim d (v :: J) (L.erase v) c) : Prim d J L (d v u + c)
theorem Cov.perm0 {d : Int → Int → Int} {J R : List Int} {c : Int} (h : Cov d J R c) (hR : R = []) : c = 0 := by
 cases h with
 | nil => rfl
 | snoc _ _ => simp at hR
theorem Prim.le {d : Int → Int → Int} (m : Met d) {J L : List Int} {c : Int} (h : Prim d J L c) : ∀ {R : List Int} {e : Int}, R.Perm L → L.Nodup → Cov d J R e → c ≤ e := by
 induction h with
 | nil => intro R e hp _ k; rw [k.perm0 (List.perm_nil.1 hp)]; exact Int.le_refl _
 | @step J L c v u hv hu hm h ih =>
  intro R e hp nd k
  obtain ⟨R', e', k1, k2, k3⟩ := Cov.exch m k (hp.mem_iff.2 hv) (fun x hx y hy => hm x (hp.mem_iff.1 hx) y hy) (hp.symm.nodup nd)
  have := ih (k1.trans (hp.erase v)) (nd.erase v) k2
  omega
theorem Cov.way {d : Int → Int → Int} (m : Met d) (a b : Int) : ∀ (R : List Int), ∃ e, Cov d [a] R e ∧ e ≤ plen d a R b := fun R => by
 have key : ∀ (n : Nat) (R : List Int), R.length = n → ∀ b, ∃ e, Cov d [a] R e ∧ e + d (R.getLast?.getD a) b ≤ plen d a R b := by
  intro n
  induction n with
  | zero => intro R h b; rw [List.length_eq_zero_iff.1 h]; exact ⟨0, .nil, by simp [plen]⟩
  | succ n ih =>
   intro R h b
   rcases List.eq_nil_or_concat R with rfl | ⟨R', x, rfl⟩
   ·cases h
   ·rw [List.concat_eq_append] at h ⊢
    obtain ⟨e, k1, k2⟩ := ih R' (by simpa using h) x
    refine ⟨e + d x (R'.getLast?.getD a), k1.snoc ?_, ?_⟩
    ·cases hq : R'.getLast? with
     | none => exact .inl (by simp)
     | some y => exact .inr (List.mem_of_getLast? hq)
    ·rw [plen_app, m.sym x]
     simp [plen]
     omega
 obtain ⟨e, k1, k2⟩ := key _ R rfl b
 have := m.nn (R.getLast?.getD a) b
 exact ⟨e, k1, by omega⟩
theorem tour_ins {d : Int → Int → Int} (m : Met d) (a : Int) : ∀ (l : List Int) (v u b : Int), u = a ∨ u ∈ l → ∃ l', l'.Perm (v :: l) ∧ plen d a l' b ≤ plen d a l b + 2 * d v u
 | l, v, u, b, h => by
  by_cases e : u = a
  ·subst e
   refine ⟨v :: l, .refl _, ?_⟩
   rw [plen]
   have h1 := m.sym v u
   cases l with
   | nil => rw [plen, plen]; have := m.tri v u b; omega
   | cons t l => rw [plen, plen]; have := m.tri v u t; omega
  ·have hu : u ∈ l := h.resolve_left e
   cases l with
   | nil => cases hu
   | cons t l =>
    obtain ⟨l', k1, k2⟩ := tour_ins m t l v u b (by rcases List.mem_cons.1 hu with q | q; exact .inl q; exact .inr q)
    refine ⟨t :: l', (k1.cons t).trans (List.Perm.swap v t l), ?_⟩
    rw [plen, plen]; omega
theorem Prim.tour {d : Int → Int → Int} (m : Met d) (a b : Int) {J L : List Int} {c : Int} (h : Prim d J L c) : ∀ {K : List Int}, (∀ x ∈ J, x = a ∨ x ∈ K) → ∃ l, l.Perm (L ++ K) ∧ plen d a l b ≤ plen d a K b + 2 * c := by
 induction h with
 | nil => intro K _; exact ⟨K, .refl _, by omega⟩
 | @step J L c v u hv hu hm h ih =>
  intro K hK
  obtain ⟨K', k1, k2⟩ := tour_ins m a K v u b (hK u hu)
  obtain ⟨l, k3, k4⟩ := ih (K := K') fun x hx => by
   rcases List.mem_cons.1 hx with rfl | hx
   ·exact .inr (k1.mem_iff.2 (by simp))
   ·exact (hK x hx).imp id fun q => k1.mem_iff.2 (List.mem_cons_of_mem _ q)
  refine ⟨l, k3.trans ?_, by omega⟩
  have p1 : (L.erase v ++ K').Perm (L.erase v ++ (v :: K)) := k1.append_left _
  have p2 : (L.erase v ++ (v :: K)).Perm (v :: (L.erase v ++ K)) := List.perm_middle
  have p3 : (v :: (L.erase v ++ K)).Perm (L ++ K) := by
   rw [← List.cons_append]
   exact (List.perm_cons_erase hv).symm.append_right K
  exact p1.trans (p2.trans p3)
end Go.Proofs.Xx
namespace Go.Proofs.Xx
set_option linter.unusedSectionVars false
set_option linter.unusedSimpArgs false
set_option linter.unusedVariables false
def lexL (a b : List Int) : Prop := ∃ pre x y s t, a = pre ++ x :: s ∧ b = pre ++ y :: t ∧ x < y
theorem lexL_cons {x : Int} {a b : List Int} : lexL (x :: a) (x :: b) ↔ lexL a b := by
 constructor
 ·rintro ⟨pre, u, v, s, t, h1, h2, h3⟩
  cases pre with
  | nil =>
   rw [List.nil_append] at h1 h2
   have e1 := (List.cons.inj h1).1
   have e2 := (List.cons.inj h2).1
   omega
  | cons y pre =>
   rw [List.cons_append] at h1 h2
   exact ⟨pre, u, v, s, t, (List.cons.inj h1).2, (List.cons.inj h2).2, h3⟩
 ·rintro ⟨pre, u, v, s, t, rfl, rfl, h3⟩
  exact ⟨x :: pre, u, v, s, t, rfl, rfl, h3⟩
theorem lexL_asymm : ∀ {a b : List Int}, lexL a b → ¬ lexL b a
 | [], b, ⟨pre, x, y, s, t, h1, _, _⟩, _ => by simp at h1
 | a :: l, [], ⟨pre, x, y, s, t, _, h2, _⟩, _ => by simp at h2
 | a :: l, b :: r, h, k => by
  by_cases e : a = b
  ·subst e
   exact lexL_asymm (lexL_cons.1 h) (lexL_cons.1 k)
  ·obtain ⟨pre, x, y, s, t, h1, h2, h3⟩ := h
   obtain ⟨pre', x', y', s', t', k1, k2, k3⟩ := k
   cases pre with
   | cons z pre =>
    rw [List.cons_append] at h1 h2
    exact e ((List.cons.inj h1).1.trans (List.cons.inj h2).1.symm)
   | nil =>
    cases pre' with
    | cons z pre' =>
     rw [List.cons_append] at k1 k2
     exact e ((List.cons.inj k2).1.trans (List.cons.inj k1).1.symm)
    | nil =>
     rw [List.nil_append] at h1 h2 k1 k2
     have e1 := (List.cons.inj h1).1
     have e2 := (List.cons.inj h2).1
     have e3 := (List.cons.inj k1).1
     have e4 := (List.cons.inj k2).1
     omega
theorem lexL_irr {a : List Int} (h : lexL a a) : False := lexL_asymm h h
theorem Comp_lex {stops : List Int} (hs : stops.Pairwise (· < ·)) : ∀ (n : Nat) (done : List Int), (Comp stops n done).Pairwise lexL
 | 0, done => by simp [Comp]
 | n + 1, done => by
  rw [Comp, List.pairwise_flatMap]
  refine ⟨fun t _ => ?_, hs.imp fun {t u} htu c hc e he => ?_⟩
  ·split
   ·exact .nil
   ·exact Comp_lex hs n _
  ·split at hc
   ·cases hc
   ·split at he
    ·cases he
    ·obtain ⟨r, rfl, -⟩ := Comp_pre stops n _ c hc
     obtain ⟨q, rfl, -⟩ := Comp_pre stops n _ e he
     exact ⟨done, t, u, r, q, by simp, by simp, htu⟩
theorem perm_of_sub : ∀ {a b : List Int}, a.Nodup → (∀ x ∈ a, x ∈ b) → a.length = b.length → a.Perm b
 | [], b, _, _, h => by rw [List.length_eq_zero_iff.1 h.symm]
 | x :: a, b, h1, h2, h3 => by
  rw [List.nodup_cons] at h1
  have hx := h2 x (by simp)
  have p := List.perm_cons_erase hx
  have hl := p.length_eq
  refine (List.Perm.cons x (perm_of_sub h1.2 (fun y hy => ?_) ?_)).trans p.symm
  ·rcases List.mem_cons.1 (p.mem_iff.1 (h2 y (List.mem_cons_of_mem _ hy))) with q | q
   ·rw [q] at hy; exact absurd hy h1.1
   ·exact q
  ·simp only [List.length_cons] at h3 hl; omega
theorem best_way {L : List Int → Int} (hL : ∀ c, 0 ≤ L c) {stops : List Int} (hs : stops.Pairwise (· < ·)) :
 let q := (Comp stops stops.length []).foldl (updW L) ([], -1)
 q.1.Perm stops ∧ q.2 = L q.1 ∧ ∀ c, c.Perm stops → L q.1 ≤ L c ∧ (L c = L q.1 → ¬ lexL c q.1) := by
 intro q
 have nd : stops.Nodup := hs.imp fun h => Int.ne_of_lt h
 obtain ⟨k1, -, k3, k4⟩ := fold_best hL (Comp stops stops.length []) ([], -1) (fun h => by exfalso; simp only at h; omega)
 have mem : ∀ c, c.Perm stops → c ∈ Comp stops stops.length [] := fun c hc => by
  have := Comp_mem stops stops.length [] c hc.length_eq (by simpa using hc.symm.nodup nd) fun x hx => hc.mem_iff.1 hx
  simpa using this
 have per : ∀ c, c ∈ Comp stops stops.length [] → c.Perm stops := fun c hc => by
  obtain ⟨r, e, hr⟩ := Comp_pre stops stops.length [] c hc
  obtain ⟨h1, h2⟩ := Comp_sub stops stops.length [] c hc .nil (fun x hx => by cases hx)
  rw [List.nil_append] at e
  subst e
  exact perm_of_sub h1 h2 (by omega)
 have h0 := k3 stops (mem stops (.refl _))
 have hne : q ≠ ([], -1) := fun e => by
  have := congrArg Prod.snd e
  change q.2 = -1 at this
  have h1 : 0 ≤ q.2 := h0.1
  omega
 rcases k1 with k1 | ⟨k1, k5⟩
 ·exact absurd k1 hne
 refine ⟨per _ k1, k5, fun c hc => ⟨by have := (k3 c (mem c hc)).2; exact Int.le_trans (Int.le_of_eq k5.symm) this, fun e hl => ?_⟩⟩
 obtain ⟨a, b, k6, k7⟩ := k4 hne
 have pw := Comp_lex hs stops.length []
 have hm := mem c hc
 rw [k6] at pw hm
 rcases List.mem_append.1 hm with k8 | k8
 ·have h1 := k7 c k8
  have h2 : q.2 = L q.1 := k5
  change q.2 < L c at h1
  omega
 ·rcases List.mem_cons.1 k8 with k9 | k9
  ·rw [k9] at hl; exact lexL_irr hl
  ·rw [List.pairwise_append, List.pairwise_cons] at pw
   exact lexL_asymm hl (pw.2.1.1 c k9)
end Go.Proofs.Xx
namespace Go.Proofs.Xx
set_option linter.unusedSectionVars false
set_option linter.unusedSimpArgs false
set_option linter.unusedVariables false
def lastD (l : List Int) : Int := l.getLast?.getD (-1)
def lenTo (d : Int → Int → Int) (l : List Int) : Int := tour d l - d (lastD l) (-1)
theorem lastD_app {l : List Int} {t : Int} : lastD (l ++ [t]) = t := by simp [lastD]
theorem lenTo_nil {d : Int → Int → Int} : lenTo d [] = 0 := by simp [lenTo, tour, plen, lastD]
theorem tour_to {d : Int → Int → Int} {l : List Int} : tour d l = lenTo d l + d (lastD l) (-1) := by unfold lenTo; omega
theorem plen_to {d : Int → Int → Int} (l : List Int) (t : Int) : plen d (-1) l t = lenTo d l + d (lastD l) t := by
 unfold lenTo tour
 rcases List.eq_nil_or_concat l with rfl | ⟨r, x, rfl⟩
 ·simp [plen, lastD]
 ·rw [List.concat_eq_append, plen_app, plen_app, lastD_app]
  simp [plen]
theorem lenTo_app {d : Int → Int → Int} (l : List Int) (t : Int) : lenTo d (l ++ [t]) = lenTo d l + d (lastD l) t := by
 rw [← plen_to]
 unfold lenTo tour
 rw [plen_app, lastD_app]
 simp [plen]
theorem tour_pre {d : Int → Int → Int} (m : Met d) (l r : List Int) : tour d l ≤ tour d (l ++ r) := by
 rcases List.eq_nil_or_concat l with rfl | ⟨l', x, rfl⟩
 ·have := plen_nn m r (-1) (-1)
  have h := m.z (-1)
  simp [tour, plen, h]; exact this
 ·unfold tour
  rw [List.concat_eq_append, List.append_assoc, plen_app, List.singleton_append, plen_app]
  have := plen_ge m r x (-1)
  simp [plen]; omega
theorem lenTo_b {d : Int → Int → Int} {M : Int} {N : Int} (hd : ∀ a b, a < N → b < N → 0 ≤ d a b ∧ d a b ≤ M) (hN : 0 ≤ N) : ∀ (l : List Int), (∀ t ∈ l, t < N) → 0 ≤ lenTo d l ∧ lenTo d l ≤ M * l.length ∧ lastD l < N := by
 have key : ∀ (n : Nat) (l : List Int), l.length = n → (∀ t ∈ l, t < N) → 0 ≤ lenTo d l ∧ lenTo d l ≤ M * l.length ∧ lastD l < N := by
  intro n
  induction n with
  | zero => intro l h _; rw [List.length_eq_zero_iff.1 h]; simp [lenTo_nil, lastD]; omega
  | succ n ih =>
   intro l h ht
   rcases List.eq_nil_or_concat l with rfl | ⟨l', x, rfl⟩
   ·cases h
   ·rw [List.concat_eq_append] at h ht ⊢
    obtain ⟨h1, h2, h3⟩ := ih l' (by simpa using h) fun t q => ht t (List.mem_append_left _ q)
    have hx := ht x (by simp)
    have h4 := hd (lastD l') x h3 hx
    rw [lenTo_app, lastD_app]
    refine ⟨by omega, ?_, hx⟩
    simp only [List.length_append, List.length_singleton]
    push_cast
    rw [Int.mul_add]
    omega
 exact fun l => key _ l rfl
def CompI (stops : List Int) (n : Nat) (done : List Int) (i : Nat) : List (List Int) := (stops.take i).flatMap fun t => if t ∈ done then [] else Comp stops n (done ++ [t])
theorem CompI_0 {stops : List Int} {n : Nat} {done : List Int} : CompI stops n done 0 = [] := by simp [CompI]
theorem CompI_all {stops : List Int} {n : Nat} {done : List Int} : CompI stops n done stops.length = Comp stops (n + 1) done := by simp [CompI, Comp]
theorem CompI_s {stops : List Int} {n : Nat} {done : List Int} {i : Nat} (hi : i < stops.length) : CompI stops n done (i + 1) = CompI stops n done i ++ (if stops.getD i default ∈ done then [] else Comp stops n (done ++ [stops.getD i default])) := by
 unfold CompI
 rw [List.take_add_one, List.flatMap_append, List.getElem?_eq_getElem hi]
 have : stops.getD i default = stops[i] := by rw [List.getD_eq_getElem?_getD, List.getElem?_eq_getElem hi]; rfl
 rw [this]
 simp
theorem cut_keep {d : Int → Int → Int} (m : Met d) {stops : List Int} {n : Nat} {done : List Int} {s : BestW} (h0 : 0 ≤ s.2) (h : s.2 ≤ tour d done) : (Comp stops n done).foldl (updW (tour d)) s = s :=
 updW_keep _ _ h0 fun c hc => by
  obtain ⟨r, rfl, -⟩ := Comp_pre stops n done c hc
  have := tour_pre m done r
  omega
theorem foldW_b {L : List Int → Int} {B : Int} (hL : ∀ c, 0 ≤ L c) : ∀ (l : List (List Int)) (s : BestW), (∀ c ∈ l, L c ≤ B) → s.2 ≤ B → -1 ≤ s.2 → -1 ≤ (l.foldl (updW L) s).2 ∧ (l.foldl (updW L) s).2 ≤ B
 | [], s, _, h, h1 => ⟨h1, h⟩
 | c :: l, s, hb, h, h1 => by
  rw [List.foldl_cons]
  refine foldW_b hL l _ (fun x hx => hb x (List.mem_cons_of_mem _ hx)) ?_ ?_
  ·unfold updW; split
   ·exact hb c (by simp)
   ·exact h
  ·unfold updW; split
   ·have := hL c; simp only; omega
   ·exact h1
end Go.Proofs.Xx
namespace Go.Proofs.Xx
open Go Go.Proofs
set_option linter.unusedSimpArgs false
set_option linter.unusedVariables false
set_option linter.unusedSectionVars false
set_option maxRecDepth 100000
set_option maxHeartbeats 4000000
theorem ValidL.xy {l : List Tab} (h : ValidL l) {i : Nat} (hi : i < l.length) : XYok (tb l i) := by
 have hc := (h.2 i hi).1
 unfold chk at hc
 split at hc
 ·cases hc
 ·split at hc
  ·cases hc
  ·split at hc
   ·cases hc
   ·split at hc
    ·cases hc
    ·rename_i hx; exact Classical.not_not.1 hx
theorem ptX_b {l : List Tab} (h : ValidL l) {t : Int} (ht : t < l.length) : 0 ≤ ptX l t ∧ ptX l t ≤ 1000 := by
 unfold ptX
 split
 ·omega
 ·have := h.xy (i := t.toNat) (by omega); unfold XYok at this; omega
theorem ptY_b {l : List Tab} (h : ValidL l) {t : Int} (ht : t < l.length) : 0 ≤ ptY l t ∧ ptY l t ≤ 1000 := by
 unfold ptY
 split
 ·omega
 ·have := h.xy (i := t.toNat) (by omega); unfold XYok at this; omega
theorem stp_met (l : List Tab) : Met (stp l) := by
 constructor <;> intros <;> unfold stp <;> omega
theorem stp_b {l : List Tab} (h : ValidL l) {a b : Int} (ha : a < l.length) (hb : b < l.length) : 0 ≤ stp l a b ∧ stp l a b ≤ 2000 := by
 have h1 := ptX_b h ha
 have h2 := ptX_b h hb
 have h3 := ptY_b h ha
 have h4 := ptY_b h hb
 unfold stp; omega
theorem point_ok {h0 : AH} (w : WfH h0) (v : PbV) (p : Pb) (H : PbOk h0 v p) (t : Int) (ht : t < p.tabs.length) : Fn Tryz.prog Xh 64 [v.val, .int .i64 t] h0 (fun u h' => u = .tuple #[.int .i64 (ptX p.tabs t), .int .i64 (ptY p.tabs t)] ∧ Hs h0 h' []) := by
 have S := Hs.start w
 have hr := H.tab.rd
 unfold PbV.val
 refine Fn_K (by first | rfl) Tryz.func64 rfl rfl ?_
 all_goals (repeat' (first | refine K_seq ?_ | refine k_cond rfl ?_ | refine K_skip ?_ | (refine K_region (id := 0) ?_; (refine bx S ?_; clear S; intro b h S); refine mv ?_; refine mv ?_; refine KO_nil ?_) | (refine K_region (id := 1) ?_; refine mv ?_; (first | (refine cS ?_ ?_ <;> intro hc)) <;> (refine KO_nil ?_)) | (refine K_region (id := 2) ?_; refine mv ?_; refine mv ?_; refine KO_nil ?_)))
 ·refine K_ret ⟨_, rfl, ?_⟩
  exact ⟨by unfold ptX ptY; rw [if_pos hc, if_pos hc]; rfl, S.drop⟩
 ·obtain ⟨j, rfl⟩ := Int.eq_ofNat_of_zero_le (show 0 ≤ t by omega)
  all_goals (repeat' (first | (refine K_draw (id := 3) ?_; refine vl ?_; refine lB S rfl rfl ?_; refine mv ?_; refine ixB S ?_; refine fB S ?_; refine lEB S ?_; refine vl ?_; refine lB S rfl rfl ?_; refine mv ?_; refine ixB S ?_; refine fB S ?_; refine lEB S ?_; refine mv ?_; refine mv ?_; refine KO_nil ?_)))
  refine K_ret ⟨_, rfl, ?_⟩
  exact ⟨by unfold ptX ptY; rw [if_neg (by omega), if_neg (by omega)]; rfl, S.drop⟩
theorem ssteps_ok {h0 : AH} (w : WfH h0) (v : PbV) (p : Pb) (H : PbOk h0 v p) (hv : ValidL p.tabs) (a c : Int) (ha : a < p.tabs.length) (hb : c < p.tabs.length) : Fn Tryz.prog Xh 34 [v.val, .int .i64 a, .int .i64 c] h0 (fun u h' => u = .int .i64 (stp p.tabs a c) ∧ Hs h0 h' []) := by
 have S := Hs.start w
 have x1 := ptX_b hv ha
 have x2 := ptX_b hv hb
 have y1 := ptY_b hv ha
 have y2 := ptY_b hv hb
 unfold PbV.val
 refine Fn_K (by first | rfl) Tryz.func34 rfl rfl ?_
 all_goals (repeat' (first | refine K_seq ?_ | (refine K_region (id := 0) ?_; (refine bx S ?_; clear S; intro b h S); refine mv ?_; refine KO_nil ?_) | (refine K_region (id := 1) ?_; refine lB S rfl rfl ?_; refine mv ?_)))
 obtain ⟨bb, hnm⟩ : ∃ x, x = b := ⟨_, rfl⟩; subst hnm
 (refine KO_fn rfl rfl rfl rfl rfl ((point_ok S.wf v p (H.ext w S.ext) a ha).mono ?_); rintro _ h ⟨rfl, x⟩) <;> (replace S := S.join0 x; clear x; refine mv ?_; refine vl ?_; refine vl ?_; refine mv ?_; refine mv ?_; refine KO_nil ?_)
 all_goals (repeat' (first | refine K_seq ?_ | (refine K_region (id := 2) ?_; refine lB S rfl rfl ?_; refine mv ?_)))
 (refine KO_fn rfl rfl rfl rfl rfl ((point_ok S.wf v p (H.ext w S.ext) c hb).mono ?_); rintro _ h ⟨rfl, x⟩) <;> (replace S := S.join0 x; clear x; refine mv ?_; refine vl ?_; refine vl ?_; refine mv ?_; refine mv ?_; refine KO_nil ?_)
 all_goals (repeat' (first | refine K_seq ?_ | (refine K_region (id := 3) ?_; refine mv ?_; refine mv ?_; refine sb ?_; refine mv ?_; refine mv ?_; refine sb ?_; refine mx ?_; refine mv ?_; refine mv ?_; refine sb ?_; refine mv ?_; refine mv ?_; refine sb ?_; refine mx ?_; refine ad ?_; refine mv ?_; refine KO_nil ?_)))
 refine K_ret ⟨_, rfl, ?_⟩
 exact ⟨rfl, S.drop⟩
theorem slength_ok {h0 : AH} (w : WfH h0) (v : PbV) (p : Pb) (H : PbOk h0 v p) (hv : ValidL p.tabs) (wl : Value) (l : List Int) (rl : RdL h0 wl 1 eI l) (hl : l.length ≤ 1000000) (ht : ∀ t ∈ l, t < p.tabs.length) : Fn Tryz.prog Xh 35 [v.val, wl] h0 (fun u h' => u = .int .i64 (tour (stp p.tabs) l) ∧ Hs h0 h' []) := by
 have S := Hs.start w
 unfold PbV.val
 refine Fn_K (by first | rfl) Tryz.func35 rfl rfl ?_
 all_goals (repeat' (first | refine K_seq ?_ | refine k_block ?_ | (refine K_region (id := 0) ?_; (refine bx S ?_; clear S; intro b h S); refine mv ?_; refine KO_nil ?_) | (refine K_region (id := 1) ?_; refine mv ?_; refine mv ?_; refine KO_nil ?_) | (refine K_region (id := 2) ?_; refine mv ?_; refine lnB S ?_; refine mv ?_; refine KO_nil ?_)))
 refine k_loop (σ := Nat × Int × Int) (fun (i, n, a) h' => Hs h0 h' [.blk b v.cs 33] ∧ i ≤ l.length ∧ (0 ≤ n ∧ n ≤ 2000 * i) ∧ a < p.tabs.length ∧ n + plen (stp p.tabs) a (l.drop i) (-1) = tour (stp p.tabs) l) (fun (i, n, a) => l.length - i) (fun (i, n, a) => [(2, .pointer (some ⟨b, 0, none⟩)), (5, .int .i64 n), (6, .int .i64 a), (9, wl), (10, .int .i64 l.length), (11, .int .i64 i)]) (0, 0, -1) (by repeat (first | exact Ks.le_nil _ | refine Ks.le_cons rfl ?_)) ?_ ?_
 ·exact ⟨S, Nat.zero_le _, ⟨Int.le_refl _, Int.le_refl _⟩, by omega, by simp [tour]⟩
 clear S
 rintro ⟨i, n, a⟩ h ⟨S, h1, h2, h3, h4⟩
 all_goals (repeat' (first | refine K_seq ?_ | refine k_cond rfl ?_ | refine K_skip ?_ | refine K_exit ?_ | refine k_block ?_ | (refine K_region (id := 3) ?_; (first | (refine cS ?_ ?_ <;> intro hc)) <;> (refine KO_nil ?_)) | (refine K_region (id := 4) ?_; refine ixB S ?_; refine lEB S ?_; refine mv ?_; refine KO_nil ?_) | (refine K_region (id := 5) ?_; refine mv ?_; refine lB S rfl rfl ?_; refine mv ?_; refine mv ?_) | (refine K_region (id := 8) ?_; refine mv ?_; refine lB S rfl rfl ?_; refine mv ?_)))
 ·(try simp only [Int.toNat_natCast] at *)
  have hi : i < l.length := by omega
  have h5 := ht _ (mem_getD hi)
  have h6 := stp_b hv h3 h5
  (refine KO_fn rfl rfl rfl rfl rfl ((ssteps_ok S.wf v p (H.ext w S.ext) hv a (l.getD i default) h3 h5).mono ?_); rintro _ h ⟨rfl, x⟩) <;> (replace S := S.join0 x; clear x; refine ad ?_; refine mv ?_; refine KO_nil ?_)
  all_goals (repeat' (first | (refine K_region (id := 6) ?_; refine mv ?_; refine mv ?_; refine KO_nil ?_) | (refine K_region (id := 7) ?_; refine ad ?_; refine mv ?_; refine KO_nil ?_)))
  refine ⟨(i + 1, n + stp p.tabs a (l.getD i default), l.getD i default), ?_, ?_, (by repeat (first | exact Ks.le_nil _ | refine Ks.le_cons rfl ?_))⟩
  ·show l.length - (i + 1) < l.length - i; omega
  ·refine ⟨S, by omega, ⟨by simp only; omega, by simp only; omega⟩, h5, ?_⟩
   rw [← h4, List.drop_eq_getElem_cons hi, plen, List.getD_eq_getElem?_getD, List.getElem?_eq_getElem hi]
   simp only [Option.getD_some]; omega
 ·have hi : i = l.length := by omega
  have h6 := stp_b hv h3 (show (-1 : Int) < p.tabs.length by omega)
  (refine KO_fn rfl rfl rfl rfl rfl ((ssteps_ok S.wf v p (H.ext w S.ext) hv a (-1) h3 (by omega)).mono ?_); rintro _ h ⟨rfl, x⟩) <;> (replace S := S.join0 x; clear x; refine ad ?_; refine mv ?_; refine KO_nil ?_)
  all_goals (repeat' (fail))
  refine K_ret ⟨_, rfl, ?_⟩
  refine ⟨?_, S.drop⟩
  rw [← h4, hi, List.drop_length, plen]
  rfl
end Go.Proofs.Xx
namespace Go.Proofs.Xx
open Go Go.Proofs
set_option linter.unusedSimpArgs false
set_option linter.unusedVariables false
set_option linter.unusedSectionVars false
set_option maxRecDepth 100000
set_option maxHeartbeats 4000000
section
variable {P : Program} {X : Extern} {ops : Array Oper} {os : List Oper} {o : Oper} {sz : Nat} {h h0 : AH} {rs : List Rs} {R : Ks → AH → Prop}
inductive HSteps (P : Program) (ops : Array Oper) (sz : Nat) (h : AH) : Ks → List Nat → Ks → Prop where
 | nil {L : Ks} : HSteps P ops sz h L [] L
 | cons {L L1 L' : Ks} {k : Nat} {ks : List Nat} {ok : Oper} {v : Value} {h' : AH} (hok : ops[k]? = some ok) (hg : guardA ops L.tree ok.guard = some true) (ha : aOp P L.tree h ok.op = some (.val v h')) (hd : putK sz L ok.dst v = some L1) (r : HSteps P ops sz h L1 ks L') : HSteps P ops sz h L (k :: ks) L'
theorem HSteps.mv {L L1 L' : Ks} {k : Nat} {ks : List Nat} {ok : Oper} {v : Value} {x : Operand} (hok : ops[k]? = some ok) (hm : ok.op = .move x) (hx : kA L x = some v) (hg : guardA ops L.tree ok.guard = some true) (hd : putK sz L ok.dst v = some L1) (r : HSteps P ops sz h L1 ks L') : HSteps P ops sz h L (k :: ks) L' :=
 .cons (h' := h) hok hg (by rw [hm]; simp only [aOp, tree_le hx, nextOf]) hd r
theorem HSteps.cU {L L1 L' : Ks} {k : Nat} {ks : List Nat} {ok : Oper} {x : Operand} {s d : TypeId} {k1 k2 : IntKind} {a : Int} (hb : 0 ≤ a ∧ a ≤ 255) (hok : ops[k]? = some ok) (hm : ok.op = .convert s d x) (hx : kA L x = some (.int k1 a)) (hs : P.underlying s = some (.int k2)) (hd' : P.underlying d = some (.int .u8)) (hg : guardA ops L.tree ok.guard = some true) (hd : putK sz L ok.dst (.int .u8 a) = some L1) (r : HSteps P ops sz h L1 ks L') : HSteps P ops sz h L (k :: ks) L' :=
 .cons (h' := h) hok hg (by rw [hm]; simp only [aOp, tree_le hx, aConvert, hs, hd', wrap_u8 hb]) hd r
theorem HSteps.run {L L' : Ks} {ks : List Nat} (s : HSteps P ops sz h L ks L') : ∀ {t : Tr Value}, Kn t L → Kn (ks.foldl (stepH P ops sz h) t) L' := by
 induction s with
 | nil => intro t hk; exact hk
 | @cons _ _ _ k _ _ _ _ hok hg ha hd r ih =>
  intro t hk
  obtain ⟨t1, e1, k1⟩ := putK_ok hk hd
  rw [List.foldl_cons]
  have : stepH P ops sz h t k = t1 := by
   unfold stepH
   simp only [hok, guardA_le hk.tle hg, aOp_le hk.tle ha, e1]
  rw [this]
  exact ih k1
theorem HintOk.many {L L' : Ks} {j : Nat} {ks : List Nat} {o : Oper} {x : Option Nat} {c : List Value} {e : TypeId} (hp : predsOf ops (masks ops.toList []) j = ks) (ho : ops[j]? = some o) (s : HSteps P ops sz h L ks L') (hf : aFloat P L'.tree o.op = some (x, c, e)) : HintOk P ops sz L h j c e := fun t hk => by
 unfold hintObj
 rw [ho, hp]
 simp only [aFloat_le (s.run hk).tle hf]
end
end Go.Proofs.Xx
namespace Go.Proofs.Xx
open Go Go.Proofs
set_option linter.unusedSimpArgs false
set_option linter.unusedVariables false
set_option linter.unusedSectionVars false
set_option maxRecDepth 100000
set_option maxHeartbeats 4000000
def PoolOk (L : List (Value × List Int)) (h : AH) (fp : Fp) : Prop := ∀ x ∈ L, (Rs.rd x.1 1 eI x.2).ok h fp
abbrev poolR (L : List (Value × List Int)) : Rs := .any (PoolOk L)
class InP (L : List (Value × List Int)) (v : Value) (l : outParam (List Int)) : Prop where
 mem : (v, l) ∈ L
theorem rd_of {h : AH} {fp : Fp} {v : Value} {l : List Int} (q : (Rs.rd v 1 eI l).ok h fp) : RdL h v 1 eI l := by
 rcases q with ⟨q1, q2⟩ | ⟨b, o, cap, cc, e, s, r, q1, q2, q3, q4⟩
 ·exact .inl ⟨q1, by rw [q2]; rfl, by rw [q2]; rfl⟩
 ·exact .inr ⟨b, o, cap, cc, e, s, r, q1, q2, q4⟩
instance HasR.pool {L : List (Value × List Int)} {v : Value} {l : List Int} {rs : List Rs} [i : InP L v l] : HasR (poolR L :: rs) v Int 1 eI l := ⟨fun S => by
 obtain ⟨fp, k⟩ := S.anyP .here
 exact rd_of (k _ i.mem)⟩
theorem Hs.poolAdd {h0 h : AH} {rs : List Rs} {L : List (Value × List Int)} {v : Value} {l : List Int} {e : TypeId} (S : Hs h0 h (.sl v e 1 eI l :: poolR L :: rs)) : Hs h0 h (poolR (L ++ [(v, l)]) :: rs) := by
 obtain ⟨f1, k1, k2, f2, k3, k4, k5⟩ := S.sep
 refine ⟨S.ext, fun b => f1 b ∨ f2 b, fun h' q g' hg => ?_, fun b hb => ?_, k5.mono fun b hb => ⟨trivial, fun q => ?_⟩⟩
 ·rcases List.mem_append.1 hg with hg | hg
  ·exact rd_mono (k3 h' (fun b hb => q b (.inr hb)) g' hg) fun b hb => .inr hb
  ·obtain rfl := List.mem_singleton.1 hg
   exact rd_mono (sl_rd (k1.local fun b hb => q b (.inl hb))) fun b hb => .inl hb
 ·rcases hb with hb | hb
  ·exact k2 b hb
  ·exact ⟨(k4 b hb).1, (k4 b hb).2.1, trivial⟩
 ·rcases q with q | q
  ·exact hb.1.2 q
  ·exact hb.2 q
theorem Hs.poolNil {h0 h : AH} {rs : List Rs} (S : Hs h0 h rs) : Hs h0 h (poolR [((.slice none 0 0), [])] :: rs) := S.anyS fun h' x hx => by
 obtain rfl := List.mem_singleton.1 hx
 exact .inl ⟨rfl, rfl⟩
theorem Comp_in {stops : List Int} : ∀ (n : Nat) (done c : List Int), c ∈ Comp stops n done → ∀ x ∈ c, x ∈ done ∨ x ∈ stops
 | 0, done, c, h, x, hx => by
  have : c = done := by simpa [Comp] using h
  subst this; exact .inl hx
 | n + 1, done, c, h, x, hx => by
  rw [Comp, List.mem_flatMap] at h
  obtain ⟨t, ht, h⟩ := h
  split at h
  ·cases h
  ·rcases Comp_in n _ c h x hx with q | q
   ·rcases List.mem_append.1 q with q | q
    ·exact .inl q
    ·rw [List.mem_singleton.1 q]; exact .inr ht
   ·exact .inr q
theorem Hs.poolRd {h0 h : AH} {rs : List Rs} {L : List (Value × List Int)} {v : Value} {l : List Int} (S : Hs h0 h rs) (a : At rs (poolR L)) (m : (v, l) ∈ L) : RdL h v 1 eI l := by
 obtain ⟨fp, k⟩ := S.anyP a
 exact rd_of (k _ m)
def cvW (b9 b2 b5 b4 b10 : Nat) : Value := .func (.func 55) #[] #[.pointer (some ⟨b9, 0, none⟩), .pointer (some ⟨b2, 0, none⟩), .pointer (some ⟨b5, 0, none⟩), .pointer (some ⟨b4, 0, none⟩), .pointer (some ⟨b10, 0, none⟩)]
abbrev rtR (v : PbV) (b9 b2 b5 b4 b10 : Nat) (vs : Value) (stops : List Int) (L : List (Value × List Int)) (vw : Value) (al : Int) : List Rs :=
 [poolR L, .blk b4 [vw] 30, .blk b5 [.int .i64 al] 3, .sl vs 3 1 eI stops, .blk b9 [vs] 30, .blk b2 v.cs 33, .blk b10 [cvW b9 b2 b5 b4 b10] 99]
theorem stpW {p : Pb} (hv : ValidL p.tabs) : ∀ a b, a < (p.tabs.length : Int) → b < (p.tabs.length : Int) → 0 ≤ stp p.tabs a b ∧ stp p.tabs a b ≤ 2000 := fun a b ha hb => stp_b hv ha hb
theorem tour_b {p : Pb} (hv : ValidL p.tabs) {l : List Int} (h : ∀ t ∈ l, t < (p.tabs.length : Int)) : 0 ≤ tour (stp p.tabs) l ∧ tour (stp p.tabs) l ≤ 2000 * l.length + 2000 := by
 obtain ⟨h1, h2, h3⟩ := lenTo_b (stpW hv) (by omega) l h
 have := stp_b hv h3 (show (-1 : Int) < p.tabs.length by omega)
 rw [tour_to]; omega
theorem route1_ok {h0 : AH} (w : WfH h0) (v : PbV) (p : Pb) (H : PbOk h0 v p) (hv : ValidL p.tabs) {b9 b2 b5 b4 b10 : Nat} {vs : Value} {stops : List Int} (hst : stops.length ≤ 9) (hsm : ∀ t ∈ stops, 0 ≤ t ∧ t < p.tabs.length) : ∀ (k : Nat) {h : AH} {L : List (Value × List Int)} {vw vd : Value} {way done : List Int} {al : Int}
 (hk : done.length + k = stops.length) (hL : (vd, done) ∈ L) (hW : (vw, way) ∈ L) (hd : ∀ t ∈ done, t < p.tabs.length) (hal : -1 ≤ al ∧ al ≤ 100000) (S : Hs h0 h (rtR v b9 b2 b5 b4 b10 vs stops L vw al)),
 Fn Tryz.prog Xh 55 [vd, .int .i64 (lenTo (stp p.tabs) done), .pointer (some ⟨b9, 0, none⟩), .pointer (some ⟨b2, 0, none⟩), .pointer (some ⟨b5, 0, none⟩), .pointer (some ⟨b4, 0, none⟩), .pointer (some ⟨b10, 0, none⟩)] h
  (fun _ h' => ∃ L' vw', (∀ x ∈ L, x ∈ L') ∧ (vw', ((Comp stops k done).foldl (updW (tour (stp p.tabs))) (way, al)).1) ∈ L' ∧ Hs h0 h' (rtR v b9 b2 b5 b4 b10 vs stops L' vw' ((Comp stops k done).foldl (updW (tour (stp p.tabs))) (way, al)).2)) := by
 intro k
 induction k with
 | zero =>
  intro h L vw vd way done al hk hL hW hd hal S
  haveI : InP L vd done := ⟨hL⟩
  obtain ⟨n1, n2, n3⟩ := lenTo_b (stpW hv) (by omega) done hd
  have n4 := stp_b hv n3 (show (-1 : Int) < p.tabs.length by omega)
  dsimp only [rtR] at S
  obtain ⟨sd, rfl⟩ := S.sV vd
  refine Fn_K (by first | rfl) Tryz.func55 rfl rfl ?_
  all_goals (repeat' (first | refine K_seq ?_ | refine K_scope ?_ | (refine K_region (id := 0) ?_; refine mv ?_; refine KO_nil ?_)))
  skip
  (repeat (refine K_seq ?_)); first | refine K_join (σ := Unit) (fun _ h' => Hs h0 h' (rtR v b9 b2 b5 b4 b10 vs stops L vw al)) (fun _ => [(0, sd.val), (1, .int .i64 (lenTo (stp p.tabs) done)), (2, .pointer (some ⟨b9, 0, none⟩)), (3, .pointer (some ⟨b2, 0, none⟩)), (4, .pointer (some ⟨b5, 0, none⟩)), (5, .pointer (some ⟨b4, 0, none⟩)), (6, .pointer (some ⟨b10, 0, none⟩)), (9, .int .i64 (lastD done))]) ?_ ?_
  ·all_goals (repeat' (first | refine k_cond rfl ?_ | refine K_skip ?_ | (refine K_region (id := 1) ?_; refine mv ?_; refine lnS S rfl rfl ?_; (first | (refine cS ?_ ?_ <;> intro hc)) <;> (refine KO_nil ?_)) | (refine K_region (id := 2) ?_; refine mv ?_; refine mv ?_; refine lnS S rfl rfl ?_; refine sb ?_; refine ixS2 S rfl rfl ?_; refine lES2 S rfl rfl ?_; refine mv ?_; refine KO_nil ?_)))
   ·have e : done.getD ((done.length : Int) - 1).toNat default = lastD done := by
     rcases List.eq_nil_or_concat done with rfl | ⟨l, x, rfl⟩
     ·simp at hc
     ·rw [List.concat_eq_append, lastD_app]
      simp
    rw [e]
    exact ⟨(), S, ((by repeat (first | exact Ks.le_nil _ | refine Ks.le_cons rfl ?_)))⟩
   ·obtain rfl : done = [] := List.length_eq_zero_iff.1 (by omega)
    exact ⟨(), S, ((by repeat (first | exact Ks.le_nil _ | refine Ks.le_cons rfl ?_)))⟩
  clear S
  rintro - h S
  dsimp only [rtR] at S
  skip
  all_goals (repeat' (first | refine K_seq ?_ | refine k_cond rfl ?_ | (refine K_region (id := 3) ?_; refine mv ?_; refine lnS S rfl rfl ?_; refine lB S rfl rfl ?_; refine lnS S rfl rfl ?_; (refine cT ?_) <;> (refine KO_nil ?_))))
  all_goals (repeat' (first | (refine K_region (id := 4) ?_; refine mv ?_; refine lB S rfl rfl ?_; refine mv ?_)))
  (refine KO_fn rfl rfl rfl rfl rfl ((ssteps_ok S.wf v p (H.ext w S.ext) hv (lastD done) (-1) n3 (by omega)).mono ?_); rintro _ h ⟨rfl, x⟩) <;> (replace S := S.join0 x; clear x; refine ad ?_; refine mv ?_; refine KO_nil ?_)
  rw [← tour_to]
  have key : (Comp stops 0 done).foldl (updW (tour (stp p.tabs))) (way, al) = updW (tour (stp p.tabs)) (way, al) done := rfl
  rw [key]
  unfold updW
  rw [tour_to] at *
  all_goals (repeat' (first | refine K_seq ?_ | refine k_cond rfl ?_ | refine K_skip ?_ | (refine K_region (id := 5) ?_; refine lB S rfl rfl ?_; (first | (refine cS ?_ ?_ <;> intro hc)) <;> (refine mv ?_; (first | refine off ?_ | refine mv ?_); (first | refine off ?_ | (refine lB S rfl rfl ?_)); (first | refine off ?_ | (first | (refine cS ?_ ?_ <;> intro hc))) <;> (refine vl ?_; refine KO_nil ?_)))))
  ·rw [if_pos (by simp only; omega)]
   all_goals (repeat' (first | (refine K_region (id := 6) ?_; refine mv ?_; refine mv ?_; (first | (refine sB S rfl rfl ?_; clear S; intro h S)); (first | (refine sB S rfl rfl ?_; clear S; intro h S)); refine KO_nil ?_)))
   refine K_ret ⟨_, rfl, ?_⟩
   exact ⟨L, sd.val, fun _ h => h, hL, S⟩
  ·rw [if_pos (by simp only; omega)]
   all_goals (repeat' (first | (refine K_region (id := 6) ?_; refine mv ?_; refine mv ?_; (first | (refine sB S rfl rfl ?_; clear S; intro h S)); (first | (refine sB S rfl rfl ?_; clear S; intro h S)); refine KO_nil ?_)))
   refine K_ret ⟨_, rfl, ?_⟩
   exact ⟨L, sd.val, fun _ h => h, hL, S⟩
  ·rw [if_neg (by simp only; omega)]
   refine K_ret ⟨_, rfl, ?_⟩
   exact ⟨L, vw, fun _ h => h, hW, S⟩
 | succ k ih =>
  intro h L vw vd way done al hk hL hW hd hal S
  haveI : InP L vd done := ⟨hL⟩
  obtain ⟨n1, n2, n3⟩ := lenTo_b (stpW hv) (by omega) done hd
  have n4 := stp_b hv n3 (show (-1 : Int) < p.tabs.length by omega)
  dsimp only [rtR] at S
  obtain ⟨sd, rfl⟩ := S.sV vd
  refine Fn_K (by first | rfl) Tryz.func55 rfl rfl ?_
  all_goals (repeat' (first | refine K_seq ?_ | refine K_scope ?_ | (refine K_region (id := 0) ?_; refine mv ?_; refine KO_nil ?_)))
  skip
  (repeat (refine K_seq ?_)); first | refine K_join (σ := Unit) (fun _ h' => Hs h0 h' (rtR v b9 b2 b5 b4 b10 vs stops L vw al)) (fun _ => [(0, sd.val), (1, .int .i64 (lenTo (stp p.tabs) done)), (2, .pointer (some ⟨b9, 0, none⟩)), (3, .pointer (some ⟨b2, 0, none⟩)), (4, .pointer (some ⟨b5, 0, none⟩)), (5, .pointer (some ⟨b4, 0, none⟩)), (6, .pointer (some ⟨b10, 0, none⟩)), (9, .int .i64 (lastD done))]) ?_ ?_
  ·all_goals (repeat' (first | refine k_cond rfl ?_ | refine K_skip ?_ | (refine K_region (id := 1) ?_; refine mv ?_; refine lnS S rfl rfl ?_; (first | (refine cS ?_ ?_ <;> intro hc)) <;> (refine KO_nil ?_)) | (refine K_region (id := 2) ?_; refine mv ?_; refine mv ?_; refine lnS S rfl rfl ?_; refine sb ?_; refine ixS2 S rfl rfl ?_; refine lES2 S rfl rfl ?_; refine mv ?_; refine KO_nil ?_)))
   ·have e : done.getD ((done.length : Int) - 1).toNat default = lastD done := by
     rcases List.eq_nil_or_concat done with rfl | ⟨l, x, rfl⟩
     ·simp at hc
     ·rw [List.concat_eq_append, lastD_app]
      simp
    rw [e]
    exact ⟨(), S, ((by repeat (first | exact Ks.le_nil _ | refine Ks.le_cons rfl ?_)))⟩
   ·obtain rfl : done = [] := List.length_eq_zero_iff.1 (by omega)
    exact ⟨(), S, ((by repeat (first | exact Ks.le_nil _ | refine Ks.le_cons rfl ?_)))⟩
  clear S
  rintro - h S
  dsimp only [rtR] at S
  skip
  all_goals (repeat' (first | refine K_seq ?_ | refine k_cond rfl ?_ | refine K_skip ?_ | refine K_label ?_ | (refine K_region (id := 3) ?_; refine mv ?_; refine lnS S rfl rfl ?_; refine lB S rfl rfl ?_; refine lnS S rfl rfl ?_; (refine cF ?_) <;> (refine KO_nil ?_))))
  all_goals (repeat' (first | refine k_block ?_ | (refine K_region (id := 7) ?_; refine lB S rfl rfl ?_; refine lnS S rfl rfl ?_; refine mv ?_; refine KO_nil ?_)))
  obtain ⟨F, hF⟩ : ∃ F, F = fun i => (CompI stops k done i).foldl (updW (tour (stp p.tabs))) (way, al) := ⟨_, rfl⟩
  have hF0 : F 0 = (way, al) := by rw [hF]; simp only [CompI_0, List.foldl_nil]
  have hFe : (Comp stops (k + 1) done).foldl (updW (tour (stp p.tabs))) (way, al) = F stops.length := by rw [hF]; simp only [CompI_all]
  have hFs : ∀ i, i < stops.length → F (i + 1) = (if stops.getD i default ∈ done then [] else Comp stops k (done ++ [stops.getD i default])).foldl (updW (tour (stp p.tabs))) (F i) := fun i hi => by rw [hF]; simp only [CompI_s hi, List.foldl_append]
  have hb : ∀ i, -1 ≤ (F i).2 ∧ (F i).2 ≤ 100000 := fun i => by
   rw [hF]
   refine foldW_b (L := tour (stp p.tabs)) (fun c => plen_nn (stp_met p.tabs) c (-1) (-1)) _ _ (fun c hc => ?_) hal.2 hal.1
   have hc2 : ∃ t, t ∈ stops ∧ c ∈ Comp stops k (done ++ [t]) := by
    unfold CompI at hc
    obtain ⟨t, ht, h⟩ := List.mem_flatMap.1 hc
    split at h
    ·cases h
    ·exact ⟨t, List.mem_of_mem_take ht, h⟩
   obtain ⟨t, ht, hc2⟩ := hc2
   obtain ⟨r, hr, hrl⟩ := Comp_pre stops k _ c hc2
   have hcl : c.length ≤ 9 := by rw [hr]; simp; omega
   have := (tour_b hv (l := c) fun x hx => by
    rcases Comp_in k _ c hc2 x hx with q | q
    ·rcases List.mem_append.1 q with q | q
     ·exact hd x q
     ·rw [List.mem_singleton.1 q]; exact (hsm t ht).2
    ·exact (hsm x q).2).2
   omega
  rw [hFe]
  clear hFe
  refine k_loop (σ := Nat × List (Value × List Int) × Value) (fun (i, L', vw') h' => Hs h0 h' (rtR v b9 b2 b5 b4 b10 vs stops L' vw' (F i).2) ∧ i ≤ stops.length ∧ (∀ x ∈ L, x ∈ L') ∧ (vw', (F i).1) ∈ L') (fun (i, L', vw') => stops.length - i) (fun (i, L', vw') => [(0, sd.val), (1, .int .i64 (lenTo (stp p.tabs) done)), (2, .pointer (some ⟨b9, 0, none⟩)), (3, .pointer (some ⟨b2, 0, none⟩)), (4, .pointer (some ⟨b5, 0, none⟩)), (5, .pointer (some ⟨b4, 0, none⟩)), (6, .pointer (some ⟨b10, 0, none⟩)), (9, .int .i64 (lastD done)), (41, vs), (42, .int .i64 stops.length), (43, .int .i64 i)]) (0, L, vw) (by repeat (first | exact Ks.le_nil _ | refine Ks.le_cons rfl ?_)) ?_ ?_
  ·refine ⟨?_, Nat.zero_le _, fun _ h => h, ?_⟩
   ·show Hs h0 h (rtR v b9 b2 b5 b4 b10 vs stops L vw (F 0).2)
    rw [hF0]; exact S
   ·show (vw, (F 0).1) ∈ L
    rw [hF0]; exact hW
  clear S
  rintro ⟨i, L', vw'⟩ h ⟨S, g1, g2, g3⟩
  have hbi := hb i
  dsimp only [rtR] at S
  all_goals (repeat' (first | refine K_seq ?_ | refine k_cond rfl ?_ | refine K_skip ?_ | refine K_exit ?_ | refine k_block ?_ | (refine K_region (id := 8) ?_; (first | (refine cS ?_ ?_ <;> intro hc)) <;> (refine KO_nil ?_)) | (refine K_region (id := 9) ?_; refine ixS2 S rfl rfl ?_; refine lES2 S rfl rfl ?_; refine mv ?_; refine KO_nil ?_)))
  ·obtain ⟨t, ht⟩ : ∃ t, stops.getD (i : Int).toNat default = t := ⟨_, rfl⟩
   rw [ht]
   replace ht : stops.getD i default = t := ht
   have hi : i < stops.length := by omega
   have htm : t ∈ stops := by rw [← ht]; exact mem_getD hi
   have htb := hsm t htm
   have t1 := stp_b hv n3 htb.2
   have t2 := stp_b hv htb.2 (show (-1 : Int) < p.tabs.length by omega)
   haveI : InP L' sd.val done := ⟨g2 _ hL⟩
   have hfs := hFs i hi
   rw [ht] at hfs
   skip
   all_goals (repeat' (first | (refine K_region (id := 10) ?_; refine mv ?_; refine lB S rfl rfl ?_; refine mv ?_; refine mv ?_)))
   (refine KO_fn rfl rfl rfl rfl rfl ((ssteps_ok S.wf v p (H.ext w S.ext) hv (lastD done) t n3 htb.2).mono ?_); rintro _ h ⟨rfl, x⟩) <;> (replace S := S.join0 x; clear x; refine ad ?_; refine mv ?_; refine KO_nil ?_)
   rw [← lenTo_app]
   have hdl : done.length ≤ 9 := by omega
   obtain ⟨m1, m2, m3⟩ := lenTo_b (stpW hv) (by omega) (done ++ [t]) (fun x hx => by
    rcases List.mem_append.1 hx with q | q
    ·exact hd x q
    ·rw [List.mem_singleton.1 q]; exact htb.2)
   skip
   (repeat (refine K_seq ?_)); refine K_drawX (id := 11) [(12, (1, 2))] [some (b5)] ?_; refine KX_cons ?_; (first | (refine mv ?_ <;> refine KO_nil ⟨⟨by (first | exact True.intro), rfl⟩, ?_⟩)); refine KX_cons ?_; (first | (refine mv ?_ <;> refine KO_nil ⟨⟨by (first | exact True.intro), rfl⟩, ?_⟩))
   ((refine KX_cons ?_; first | refine KO_fn rfl rfl rfl rfl rfl ((containsI_ok S.wf sd.val done (S.poolRd .here (g2 _ hL)) (by omega) t).mono ?_)); rintro _ h ⟨⟨rfl, hq⟩ | ⟨rfl, hq⟩, x⟩) <;> ((refine KO_nil ⟨⟨True.intro, ?_⟩, ?_⟩; (focus ((show keepsX _ _ _ _ _; simp only [keepsX]; (repeat' (first | exact True.intro | refine And.intro ?_ ?_)); all_goals (intro hw; first | exact absurd hw (by decide +kernel)))))); replace S := S.join0 x; clear x; refine KX_cons ?_; (first | (refine mv ?_ <;> refine KO_nil ⟨⟨by (first | exact True.intro), rfl⟩, ?_⟩)); refine KX_cons ?_; (first | (refine off ?_; refine KO_nil ⟨⟨by (first | exact True.intro), rfl⟩, ?_⟩) | (refine lB S rfl rfl ?_ <;> refine KO_nil ⟨⟨by (first | exact True.intro), rfl⟩, ?_⟩)); refine KX_cons ?_; (first | (refine off ?_; refine KO_nil ⟨⟨by (first | exact True.intro), rfl⟩, ?_⟩) | ((refine cS ?_ ?_ <;> intro hc) <;> refine KO_nil ⟨⟨by (first | exact True.intro), rfl⟩, ?_⟩)) <;> (refine KX_cons ?_; (first | (refine off ?_; refine KO_nil ⟨⟨by (first | exact True.intro), rfl⟩, ?_⟩) | (refine mv ?_ <;> refine KO_nil ⟨⟨by (first | exact True.intro), rfl⟩, ?_⟩)); refine KX_cons ?_; (first | (refine off ?_; refine KO_nil ⟨⟨by (first | exact True.intro), rfl⟩, ?_⟩) | (refine mv ?_ <;> refine KO_nil ⟨⟨by (first | exact True.intro), rfl⟩, ?_⟩)); refine KX_cons ?_; (first | (refine off ?_; refine KO_nil ⟨⟨by (first | exact True.intro), rfl⟩, ?_⟩) | (refine lB S rfl rfl ?_ <;> refine KO_nil ⟨⟨by (first | exact True.intro), rfl⟩, ?_⟩)); refine KX_cons ?_; (first | (refine off ?_; refine KO_nil ⟨⟨by (first | exact True.intro), rfl⟩, ?_⟩) | (refine mv ?_ <;> refine KO_nil ⟨⟨by (first | exact True.intro), rfl⟩, ?_⟩)); (first | (refine KX_cons ?_; refine off ?_; refine KO_nil ⟨⟨True.intro, by show keepsX _ _ _ _ _; simp [keepsX]⟩, ?_⟩; refine KX_cons ?_; (first | (refine off ?_; refine KO_nil ⟨⟨by (first | exact True.intro), rfl⟩, ?_⟩)); refine KX_cons ?_; (first | (refine off ?_; refine KO_nil ⟨⟨by (first | exact Or.inl rfl), rfl⟩, ?_⟩)); refine KX_cons ?_; (first | (refine off ?_; refine KO_nil ⟨⟨by (first | exact True.intro), rfl⟩, ?_⟩)) <;> (refine KX_cons ?_; (first | (refine off ?_; refine KO_nil ⟨⟨by (first | exact True.intro), rfl⟩, ?_⟩) | (refine vl ?_ <;> refine KO_nil ⟨⟨by (first | exact True.intro), rfl⟩, ?_⟩)); refine KX_cons ?_; (first | (refine vl ?_ <;> refine KO_nil ⟨⟨by (first | exact True.intro), rfl⟩, ?_⟩)); refine KX_nil ?_)) | skip)))
   ·have hm : t ∈ done := mem_iff_getD.2 hq
    rw [if_pos hm] at hfs
    all_goals (repeat' (first | refine k_cond rfl ?_ | refine K_exit ?_ | (refine K_region (id := 13) ?_; refine ad ?_; refine mv ?_; refine KO_nil ?_)))
    refine ⟨(i + 1, L', vw'), ?_, ?_, (by repeat (first | exact Ks.le_nil _ | refine Ks.le_cons rfl ?_))⟩
    ·show stops.length - (i + 1) < stops.length - i; omega
    ·refine ⟨?_, by omega, g2, ?_⟩
     ·show Hs h0 h (rtR v b9 b2 b5 b4 b10 vs stops L' vw' (F (i + 1)).2)
      rw [hfs]; exact S
     ·show (vw', (F (i + 1)).1) ∈ L'
      rw [hfs]; exact g3
   all_goals have hm : t ∉ done := fun q => hq (mem_iff_getD.1 q)
   all_goals rw [if_neg hm] at hfs
   ((refine KX_cons ?_; first | refine KO_fn rfl rfl rfl rfl rfl ((ssteps_ok S.wf v p (H.ext w S.ext) hv t (-1) htb.2 (by omega)).mono ?_)); rintro _ h ⟨rfl, x⟩) <;> ((refine KO_nil ⟨⟨True.intro, ?_⟩, ?_⟩; (focus ((show keepsX _ _ _ _ _; simp only [keepsX]; (repeat' (first | exact True.intro | refine And.intro ?_ ?_)); all_goals (intro hw; first | exact x.ext.old _ S.bB))))); replace S := S.join0 x; clear x; refine KX_cons ?_; (first | (refine ad ?_ <;> refine KO_nil ⟨⟨by (first | exact True.intro), rfl⟩, ?_⟩)); refine KX_cons ?_; (first | (refine lB S rfl rfl ?_ <;> refine KO_nil ⟨⟨by (first | exact Or.inr rfl), rfl⟩, ?_⟩)); refine KX_cons ?_; (first | ((refine cS ?_ ?_ <;> intro hc) <;> refine KO_nil ⟨⟨by (first | exact True.intro), rfl⟩, ?_⟩)) <;> (refine KX_cons ?_; (first | (refine vl ?_ <;> refine KO_nil ⟨⟨by (first | exact True.intro), rfl⟩, ?_⟩)); refine KX_cons ?_; (first | (refine vl ?_ <;> refine KO_nil ⟨⟨by (first | exact True.intro), rfl⟩, ?_⟩)); refine KX_nil ?_))
   ·have hcut : (F (i + 1)) = F i := by
     rw [hfs]
     refine cut_keep (stp_met p.tabs) (by omega) ?_
     rw [tour_to, lastD_app]; omega
    all_goals (repeat' (first | refine k_cond rfl ?_ | refine K_exit ?_ | (refine K_region (id := 13) ?_; refine ad ?_; refine mv ?_; refine KO_nil ?_)))
    refine ⟨(i + 1, L', vw'), ?_, ?_, (by repeat (first | exact Ks.le_nil _ | refine Ks.le_cons rfl ?_))⟩
    ·show stops.length - (i + 1) < stops.length - i; omega
    ·refine ⟨?_, by omega, g2, ?_⟩
     ·show Hs h0 h (rtR v b9 b2 b5 b4 b10 vs stops L' vw' (F (i + 1)).2)
      rw [hcut]; exact S
     ·show (vw', (F (i + 1)).1) ∈ L'
      rw [hcut]; exact g3
   all_goals
    skip
    all_goals (repeat' (first | refine k_cond rfl ?_ | refine K_skip ?_))
    (repeat (refine K_seq ?_)); refine K_drawF1 (id := 12) (j1 := 4) (rd := [(0, (0, 2)), (4, (0, 1))]) (fun b1 => [some (b10), some b1]) S (by exact HintOk.many (ks := [3]) (by decide +kernel) rfl (.mv rfl rfl rfl rfl rfl .nil) rfl) ?_; clear S; intro b1 h S; refine KX_cons ?_; (first | (refine lB S rfl rfl ?_ <;> refine KO_nil ⟨⟨by (first | exact Or.inr rfl), rfl⟩, ?_⟩)); refine KX_cons ?_; (first | (refine mv ?_ <;> refine KO_nil ⟨⟨by (first | exact True.intro), rfl⟩, ?_⟩))
    ((refine KX_cons ?_; first | refine KO_fn rfl rfl rfl rfl rfl ((cloneI_ok S.wf sd.val done (S.poolRd (.there .here) (g2 _ hL)) (by omega)).mono ?_)); rintro u h x) <;> ((refine KO_nil ⟨⟨True.intro, ?_⟩, ?_⟩; (focus ((show keepsX _ _ _ _ _; simp only [keepsX]; (repeat' (first | exact True.intro | refine And.intro ?_ ?_)); all_goals (intro hw; first | exact x.ext.old _ S.bB))))); replace S := S.join1 x; clear x; refine KX_cons ?_; (first | (refine mv ?_ <;> refine KO_nil ⟨⟨by (first | exact True.intro), rfl⟩, ?_⟩)); refine fl S rfl rfl S.gB ?_)
    replace S : Hs h0 h (.sl u 3 1 eI done :: .blk b1 [.int .i64 t] 3 :: rtR v b9 b2 b5 b4 b10 vs stops L' vw' (F i).2) := S
    have S := (show Hs h0 h (.blk b1 [.int .i64 t] 3 :: .sl u 3 1 eI done :: rtR v b9 b2 b5 b4 b10 vs stops L' vw' (F i).2) from S.pick)
    have S := Hs.asSl (z := 1) eRaw [[.int .i64 t]] S
    dsimp only [rtR] at S
    refine KX_cons ?_; refine app (y0 := t) S rfl rfl ?_; have S0 := S; clear S; intro v1 h S; refine KO_nil ⟨⟨True.intro, ?_⟩, ?_⟩; (focus ((show keepsX _ _ _ _ _; simp only [keepsX]; (repeat' (first | exact True.intro | refine And.intro ?_ ?_)); all_goals (intro hw; first | exact absurd hw (by decide +kernel) | exact (S.gB).trans (S0.gB).symm)))); clear S0
    (refine KX_cons ?_; (first | (refine mv ?_ <;> refine KO_nil ⟨⟨by (first | exact True.intro), rfl⟩, ?_⟩)))
    have S := Hs.poolAdd S
    refine KX_cons ?_; refine KO_call rfl rfl rfl rfl ((ih (by simp; omega) (List.mem_append_right _ (by simp)) (List.mem_append_left _ g3) (fun x hx => by
     rcases List.mem_append.1 hx with q | q
     ·exact hd x q
     ·rw [List.mem_singleton.1 q]; exact htb.2) (hb i) S).mono ?_)
    have S0 := S; clear S
    rintro _ h ⟨L2, vw2, q1, q2, S⟩
    refine KO_nil ⟨⟨True.intro, ?_⟩, ?_⟩; (focus ((show keepsX _ _ _ _ _; simp only [keepsX]; (repeat' (first | exact True.intro | refine And.intro ?_ ?_)); all_goals (intro hw; first | exact absurd hw (by decide +kernel))))); clear S0
    (refine KX_nil ?_)
    have hF1 : (Comp stops k (done ++ [t])).foldl (updW (tour (stp p.tabs))) ((F i).1, (F i).2) = F (i + 1) := hfs.symm
    rw [hF1] at q2 S
    all_goals (repeat' (first | (refine K_region (id := 13) ?_; refine ad ?_; refine mv ?_; refine KO_nil ?_)))
    refine ⟨(i + 1, L2, vw2), ?_, ?_, (by repeat (first | exact Ks.le_nil _ | refine Ks.le_cons rfl ?_))⟩
    ·show stops.length - (i + 1) < stops.length - i; omega
    ·exact ⟨S, by omega, fun x hx => q1 x (List.mem_append_left _ (g2 x hx)), q2⟩
  ·obtain rfl : i = stops.length := by omega
   refine ⟨_, rfl, ?_⟩
   exact ⟨L', vw', g2, g3, S⟩
end Go.Proofs.Xx
namespace Go.Proofs.Xx
open Go Go.Proofs
set_option linter.unusedSimpArgs false
set_option linter.unusedVariables false
set_option linter.unusedSectionVars false
set_option maxRecDepth 100000
set_option maxHeartbeats 4000000
noncomputable def bestW (p : Pb) (q : List Int) : BestW := (Comp (srv (pltV p q)) (srv (pltV p q)).length []).foldl (updW (tour (stp p.tabs))) ([], -1)
theorem PartOk.ql {p : Pb} {q : List Int} (hp : PO p) (h : PartOk p q) : q.length ≤ 64 := by
 have := h.len
 have : p.us.length ≤ 64 := hp.rl.l64
 omega
theorem PartOk.qm {p : Pb} {q : List Int} (hl : p.tabs.length ≤ 1000) (h : PartOk p q) : ∀ x ∈ q, x ≤ 9223372036854775807 := fun x hx => by
 have h1 := h.rng x hx
 have h2 := sumT_le p.tabs p.tabs.length
 omega
theorem srv_in {p : Pb} {q : List Int} : ∀ t ∈ srv (pltV p q), 0 ≤ t ∧ t < p.tabs.length := fun t ht => by
 obtain ⟨k, h1, rfl, -⟩ := srv_mem.1 ht
 rw [pltV_len] at h1
 omega
theorem route_ok {h0 : AH} (w : WfH h0) (v : PbV) (p : Pb) (H : PbOk h0 v p) (vq : Value) (q : List Int) (rq : RdL h0 vq 1 eI q) (hq : q.length ≤ 9223372036854775807) :
 Fn Tryz.prog Xh 28 [v.val, vq] h0 (fun u h' => (∃ vw : SlV, ∃ way n e, u = .tuple #[vw.val, .int .i64 n, .int .i64 e] ∧ RdL h' vw.val 1 eI way ∧
  ((¬ (PO p ∧ PartOk p q) ∧ (∃ i, PaC p q false i e) ∧ way = [] ∧ n = 0) ∨ (PO p ∧ PartOk p q ∧ 9 < (srv (pltV p q)).length ∧ e = 8 ∧ way = [] ∧ n = 0) ∨ (PO p ∧ PartOk p q ∧ (srv (pltV p q)).length ≤ 9 ∧ e = 0 ∧ (way, n) = bestW p q))) ∧ Hs h0 h' []) := by
 have S := Hs.start w
 have hr := H.tab.rd
 have hl := H.tab.len
 unfold PbV.val
 refine Fn_K (by first | rfl) Tryz.func28 rfl rfl ?_
 all_goals (repeat' (first | refine K_seq ?_ | (refine K_region (id := 0) ?_; (refine bx S ?_; clear S; intro b h S); (refine al S ?_; clear S; intro b h S); (refine al S ?_; clear S; intro b h S); refine mv ?_; refine KO_nil ?_)))
 rename_i b2 h2 b4 h4
 obtain ⟨b5, hnm⟩ : ∃ x, x = b := ⟨_, rfl⟩; subst hnm
 all_goals (repeat' (first | (refine K_region (id := 1) ?_; refine lB S rfl rfl ?_; refine mv ?_)))
 (refine KO_fn rfl rfl rfl rfl rfl ((checkPart_ok S.wf v p (H.ext w S.ext) vq q (rq.ext w S.ext) hq).mono ?_); rintro _ h ⟨i, e, rfl, hk, x⟩) <;> (replace S := S.join0 x; clear x; refine mv ?_; refine vl ?_; refine vl ?_; refine mv ?_; refine mv ?_; refine KO_nil ?_)
 have hpo := hk.part
 all_goals (repeat' (first | refine K_seq ?_ | refine k_cond rfl ?_ | refine K_skip ?_ | (refine K_region (id := 2) ?_; refine mv ?_; (first | (refine cS ?_ ?_ <;> intro hc)) <;> (refine KO_nil ?_))))
 ·all_goals (repeat' (first | (refine K_region (id := 3) ?_; refine mv ?_; (first | (refine sB S rfl rfl ?_; clear S; intro h S)); (first | (refine sB S rfl rfl ?_; clear S; intro h S)); refine mv ?_; refine KO_nil ?_)))
  refine K_ret ⟨_, ret_cell S rfl (by first | exact .there .here) (by exact rfl) (ret_cell S rfl (by first | exact .here) (by exact rfl) (by exact rfl)), ?_⟩
  exact ⟨⟨⟨none, 0, 0⟩, [], 0, e, rfl, Rd.none_ _ 1, .inl ⟨fun k => hc (hpo.2 k), ⟨i, hk⟩, rfl, rfl⟩⟩, S.drop⟩
 obtain ⟨hp, hpq⟩ := hpo.1 (by omega)
 have hql := hpq.ql hp
 have hqm := hpq.qm hl
 have hsl := srv_len (pl := pltV p q)
 rw [pltV_len] at hsl
 skip
 all_goals (repeat' (first | (refine K_region (id := 4) ?_; refine lB S rfl rfl ?_; refine mv ?_)))
 (refine KO_fn rfl rfl rfl rfl rfl ((sserved_ok S.wf v p (H.ext w S.ext) vq q (rq.ext w S.ext) (by omega) hqm).mono ?_); rintro vs h x) <;> (replace S := S.join1 x; clear x; obtain ⟨ss, rfl⟩ := S.sV vs; (refine al S ?_; clear S; intro b h S); (first | (refine sB S rfl rfl ?_; clear S; intro h S)); refine KO_nil ?_)
 obtain ⟨b9, hnm⟩ : ∃ x, x = b := ⟨_, rfl⟩; subst hnm
 obtain ⟨stops, hst⟩ : ∃ stops, srv (pltV p q) = stops := ⟨_, rfl⟩
 rw [hst] at S hsl ⊢
 replace S : Hs h0 h [.blk b9 [ss.val] 30, .sl ss.val 3 1 eI stops, .blk b5 [.int .i64 0] 3, .blk b4 [.slice none 0 0] 30, .blk b2 v.cs 33] := S
 all_goals (repeat' (first | refine K_seq ?_ | refine k_cond rfl ?_ | refine K_skip ?_ | (refine K_region (id := 5) ?_; refine lB S rfl rfl ?_; refine lnS S rfl rfl ?_; (first | (refine cS ?_ ?_ <;> intro hc)) <;> (refine KO_nil ?_))))
 ·all_goals (repeat' (first | (refine K_region (id := 6) ?_; (first | (refine sB S rfl rfl ?_; clear S; intro h S)); (first | (refine sB S rfl rfl ?_; clear S; intro h S)); refine mv ?_; refine KO_nil ?_)))
  refine K_ret ⟨_, ret_cell S rfl (by first | exact .there (.there (.there .here))) (by exact rfl) (ret_cell S rfl (by first | exact .there (.there .here)) (by exact rfl) (by exact rfl)), ?_⟩
  exact ⟨⟨⟨none, 0, 0⟩, [], 0, 8, rfl, Rd.none_ _ 1, .inr (.inl ⟨hp, hpq, by omega, rfl, rfl, rfl⟩)⟩, S.drop⟩
 all_goals (repeat' (first | refine K_seq ?_ | (refine K_region (id := 7) ?_; (first | (refine sB S rfl rfl ?_; clear S; intro h S)); refine KO_nil ?_) | (refine K_region (id := 8) ?_; (refine al S ?_; clear S; intro b h S); refine KO_nil ?_) | (refine K_region (id := 9) ?_; refine vl ?_; (first | (refine sB S rfl rfl ?_; clear S; intro h S)); refine KO_nil ?_)))
 obtain ⟨b10, hnm⟩ : ∃ x, x = b := ⟨_, rfl⟩; subst hnm
 have S := S.poolNil
 replace S : Hs h0 h [poolR [((.slice none 0 0), [])], .blk b10 [cvW b9 b2 b5 b4 b10] 99, .blk b9 [ss.val] 30, .sl ss.val 3 1 eI stops, .blk b5 [.int .i64 (-1)] 3, .blk b4 [.slice none 0 0] 30, .blk b2 v.cs 33] := S
 have S := (show Hs h0 h (rtR v b9 b2 b5 b4 b10 ss.val stops [((.slice none 0 0), [])] (.slice none 0 0) (-1)) from S.pick)
 dsimp only [rtR] at S
 all_goals (repeat' (first | (refine K_region (id := 10) ?_; refine lB S rfl rfl ?_)))
 have hsr : ∀ t ∈ stops, 0 ≤ t ∧ t < p.tabs.length := by rw [← hst]; exact srv_in
 have R := route1_ok w v p H hp.tabs (vs := ss.val) (stops := stops) (by omega) hsr stops.length (vw := .slice none 0 0) (vd := .slice none 0 0) (way := []) (done := []) (by simp) (by simp) (by simp) (fun t ht => by cases ht) ⟨by omega, by omega⟩ S
 rw [lenTo_nil] at R
 (refine KO_call rfl rfl rfl rfl ((R).mono ?_); rintro _ h ⟨L2, vw, q1, q2, S⟩) <;> (refine KO_nil ?_)
 have r := S.poolRd .here q2
 obtain ⟨sw, rfl⟩ := r.isSl
 have hfin : bestW p q = (Comp stops stops.length []).foldl (updW (tour (stp p.tabs))) ([], -1) := by unfold bestW; rw [hst]
 rw [← hfin] at S r q2
 dsimp only [rtR] at S
 (repeat (refine K_seq ?_)); refine K_drawX (id := 11) [(1, (0, 1))] [some (b5)] ?_; refine KX_cons ?_; (first | (refine lB S rfl rfl ?_ <;> refine KO_nil ⟨⟨by (first | exact True.intro), rfl⟩, ?_⟩)); refine KX_cons ?_; (first | (refine lB S rfl rfl ?_ <;> refine KO_nil ⟨⟨by (first | exact Or.inr rfl), rfl⟩, ?_⟩)); refine KX_cons ?_; (first | ((refine sB S rfl rfl ?_; have S0 := S; clear S; intro h S); refine KO_nil ⟨⟨True.intro, ?_⟩, ?_⟩; (focus ((show keepsX _ _ _ _ _; simp only [keepsX]; (repeat' (first | exact True.intro | refine And.intro ?_ ?_)); all_goals (intro hw; first | exact (S.gB).trans (S0.gB).symm)))); clear S0)); refine KX_cons ?_; (first | ((refine sB S rfl rfl ?_; have S0 := S; clear S; intro h S); refine KO_nil ⟨⟨True.intro, ?_⟩, ?_⟩; (focus ((show keepsX _ _ _ _ _; simp only [keepsX]; (repeat' (first | exact True.intro | refine And.intro ?_ ?_)); all_goals (intro hw; first | exact absurd hw (by decide +kernel))))); clear S0)); refine KX_cons ?_; (first | (refine mv ?_ <;> refine KO_nil ⟨⟨by (first | exact True.intro), rfl⟩, ?_⟩)); refine KX_nil ?_
 refine K_ret ⟨_, ret_cell S rfl (by first | exact .there .here) (by exact rfl) (ret_cell S rfl (by first | exact .there (.there .here)) (by exact rfl) (by exact rfl)), ?_⟩
 exact ⟨⟨sw, (bestW p q).1, (bestW p q).2, 0, rfl, S.poolRd .here q2, .inr (.inr ⟨hp, hpq, by omega, rfl, rfl⟩)⟩, S.drop⟩
end Go.Proofs.Xx
namespace Go.Proofs.Xx
open Go Go.Proofs
set_option linter.unusedSimpArgs false
set_option linter.unusedVariables false
set_option linter.unusedSectionVars false
set_option maxRecDepth 100000
set_option maxHeartbeats 4000000
structure Chg (h h' : AH) (b : Nat) (o : AObj) : Prop where
 at_ : h'.get b = some o
 old : ∀ j, j ≠ b → j < h.next → h'.get j = h.get j
 next : h.next ≤ h'.next
 wf : WfH h'
theorem Chg.trans {h h' h'' : AH} {b : Nat} {o o' : AObj} (c : Chg h h' b o) (d : Chg h' h'' b o') : Chg h h'' b o' :=
 ⟨d.at_, fun j hj hn => (d.old j hj (Nat.lt_of_lt_of_le hn c.next)).trans (c.old j hj hn), Nat.le_trans c.next d.next, d.wf⟩
theorem splice_nil {c : List Value} {o : Nat} (h : o ≤ c.length) : splice c o [] = c := by simp [splice]
section
variable {P : Program} {X : Extern} {sz : Nat} {L L' : Ks} {h : AH} {ops : Array Oper} {os : List Oper} {o : Oper} {R : Ks → AH → Prop}
theorem rw3 {x lo hi mx : Operand} {vl vr vm : Value} {ty e' e : TypeId} {b o' n cap l r m z : Nat} {cc : List Value} {slk : Option Nat} {ro : Bool} (hb : h.get b = some (.cells cc e slk ro)) (wf : WfH h)
 (w : ∀ h', Chg h h' b (.cells cc e slk ro) → KO P X sz ops os L' h' R) (ho : o.op = .slice ty x (some lo) (some hi) (some mx) := by exact rfl) (hg : guardA ops L.tree o.guard = some true := by exact rfl) (hx : kA L x = some (.slice (some ⟨b, o', none⟩) n cap) := by exact rfl)
 (h1 : kA L lo = some vl := by exact rfl) (h2 : kA L hi = some vr := by exact rfl) (h3 : kA L mx = some vm := by exact rfl) (b1 : boundOf (some vl) 0 = some l := by exact rfl) (b2 : boundOf (some vr) n = some r := by exact rfl) (b3 : boundOf (some vm) cap = some m := by exact rfl)
 (hc : l ≤ r ∧ r ≤ m ∧ m ≤ cap := by omega) (hu : P.underlying ty = some (.slice e') := by exact rfl) (hz : sizeT P e' = some z := by exact rfl) (hp : putK sz L o.dst (.slice (some ⟨h.next, 0, none⟩) (r - l) (m - l)) = some L' := by exact rfl) : KO P X sz ops (o :: os) L h R := by
 refine KO_val (v := .slice (some ⟨h.next, 0, none⟩) (r - l) (m - l)) (h' := { tr := h.tr, next := h.next + 1, low := lowest h.low b }) hg ?_ hp (w _ ⟨hb, fun j _ _ => rfl, Nat.le_succ _, fun j hj => wf j (Nat.le_of_succ_le hj)⟩)
 rw [ho]
 simp only [aOp, tree_le hx, evOpt, tree_le h1, tree_le h2, tree_le h3, aSlice3, hu, hb, hz, b1, b2, b3, Nat.ble_eq_true_of_le hc.1, Nat.ble_eq_true_of_le hc.2.1, Nat.ble_eq_true_of_le hc.2.2, Bool.and_self]
theorem rw2 {x : Operand} {lo hi : Option Operand} {vl vr : Option Value} {ty e' e : TypeId} {b o' n cap l r z : Nat} {cc : List Value} {slk : Option Nat} {ro : Bool} {d : Tmp} (hb : h.get b = some (.cells cc e slk ro))
 (w : ∀ o2, (l < cap → o2 = o' + l * z) → (slk ≠ none → o2 = o' + l * z) → KO P X sz ops os (L.put d (.slice (some ⟨b, o2, none⟩) (r - l) (cap - l))) h R) (ho : o.op = .slice ty x lo hi none := by exact rfl) (hg : guardA ops L.tree o.guard = some true := by exact rfl) (hx : kA L x = some (.slice (some ⟨b, o', none⟩) n cap) := by exact rfl)
 (h1 : evOpt L.tree lo = some vl := by exact rfl) (h2 : evOpt L.tree hi = some vr := by exact rfl) (b1 : boundOf vl 0 = some l := by exact rfl) (b2 : boundOf vr n = some r := by exact rfl)
 (hc : l ≤ r ∧ r ≤ cap := by omega) (hu : P.underlying ty = some (.slice e') := by exact rfl) (hz : sizeT P e' = some z := by exact rfl) (hdst : o.dst = some d := by exact rfl) (hds : Nat.blt d sz = true := by exact rfl) : KO P X sz ops (o :: os) L h R := by
 have key : ∀ o2, aSlice P ty (.slice (some ⟨b, o', none⟩) n cap) vl vr none h = some (.slice (some ⟨b, o2, none⟩) (r - l) (cap - l)) → (l < cap → o2 = o' + l * z) → (slk ≠ none → o2 = o' + l * z) → KO P X sz ops (o :: os) L h R := fun o2 q1 q2 q3 => by
  refine KO_val (v := .slice (some ⟨b, o2, none⟩) (r - l) (cap - l)) (h' := h) hg ?_ (by simp only [putK, hdst, hds]) (w o2 q2 q3)
  rw [ho]
  simp only [aOp, tree_le hx, h1, h2, show evOpt L.tree none = some none from rfl, q1, nextOf, aSlice3_none]
 cases hq : slk.isNone && Nat.beq l cap with
 | true =>
  rw [Bool.and_eq_true] at hq
  have hl := Nat.eq_of_beq_eq_true hq.2
  subst hl
  refine key o' ?_ (fun q => by omega) (fun q => by cases slk with | none => exact absurd rfl q | some k => cases hq.1)
  simp only [aSlice, hu, hb, hz, b1, b2, Nat.ble_eq_true_of_le hc.1, Nat.ble_eq_true_of_le hc.2, Bool.and_self, hq.1, show Nat.beq l l = true by simp]
 | false =>
  refine key (o' + l * z) ?_ (fun _ => rfl) (fun _ => rfl)
  simp only [aSlice, hu, hb, hz, b1, b2, Nat.ble_eq_true_of_le hc.1, Nat.ble_eq_true_of_le hc.2, Bool.and_self, hq]
theorem rwa {x y : Operand} {ts tx e e2 : TypeId} {zc new cc : List Value} {by_ b o' n cap m z : Nat} {slk : Option Nat} {u : Value} {d : Tmp} (hb : h.get b = some (.cells cc e2 slk false)) (wf : WfH h) (hr : Rd h u z m new)
 (w : ∀ h', Chg h h' b (.cells (splice cc (o' + n * z) new) e2 slk false) → KO P X sz ops os (L.put d (.slice (some ⟨b, o', none⟩) (n + m) cap)) h' R)
 (ho : o.op = .call { callee := .builtin .append, args := #[x, y], argTypes := #[ts, tx] } := by exact rfl) (hg : guardA ops L.tree o.guard = some true := by exact rfl) (hx : kA L x = some (.slice (some ⟨b, o', none⟩) n cap) := by exact rfl) (hy : kA L y = some u := by exact rfl)
 (hs : sliceElem P ts = some e := by exact rfl) (hz : zeroCellsT P e = some zc := by exact rfl) (hzl : zc.length = z := by exact rfl) (hby : bytesT P e = some (by_ + 1) := by exact rfl) (hxs : P.underlying tx = some (.slice e) := by exact rfl)
 (hc : n + m ≤ cap := by omega) (hcc : o' + cap * z ≤ cc.length := by assumption) (h1 : new.all one? = true := by assumption) (hsz : (m + 1) * (by_ + 1) ≤ 140737488355328 := by omega) (hdst : o.dst = some d := by exact rfl) (hds : Nat.blt d sz = true := by exact rfl) : KO P X sz ops (o :: os) L h R := by
 subst hzl
 have hlen := hr.length
 have hfit : o' + n * zc.length + new.length ≤ cc.length := by
  rw [hlen, Nat.add_assoc, ← Nat.add_mul]
  exact Nat.le_trans (Nat.add_le_add_left (Nat.mul_le_mul_right _ hc) _) hcc
 have k2 : Nat.beq new.length (m * zc.length) = true := by rw [hlen]; simp
 have hsrc : aSource zc.length u h = some (m, new) := hr.source
 have go : ∀ h', aAppend P [ts, tx] (.slice (some ⟨b, o', none⟩) n cap) u h = some (.slice (some ⟨b, o', none⟩) (n + m) cap, h') → Chg h h' b (.cells (splice cc (o' + n * zc.length) new) e2 slk false) → KO P X sz ops (o :: os) L h R := fun h' q1 q2 => by
  refine KO_val (v := .slice (some ⟨b, o', none⟩) (n + m) cap) (h' := h') hg ?_ (by simp only [putK, hdst, hds]) (w h' q2)
  rw [ho]
  simp [aOp, tree_le hx, tree_le hy, evAll, aBuiltin, q1, nextOf2]
 cases m with
 | zero =>
  have hn : new = [] := List.length_eq_zero_iff.1 (by omega)
  subst hn
  refine go h ?_ ⟨by rw [splice_nil (by simp at hfit; omega)]; exact hb, fun _ _ _ => rfl, Nat.le_refl _, wf⟩
  simp only [aAppend, hs, hxs, hz, hby, hsrc, Nat.ble_eq_true_of_le hsz, h1, k2, Bool.and_self, hb, Nat.ble_eq_true_of_le (show n ≤ cap from hc), Nat.add_zero]
 | succ m =>
  refine go (h.put b (.cells (splice cc (o' + n * zc.length) new) e2 slk false)) ?_ ⟨by rw [AH.get_put, if_pos rfl], fun j hj _ => by rw [AH.get_put, if_neg hj], Nat.le_refl _, wf.put (wf.lt hb) _⟩
  simp only [aAppend, hs, hxs, hz, hby, hsrc, Nat.ble_eq_true_of_le hsz, h1, k2, Bool.and_self, hb, Nat.ble_eq_true_of_le hc, putCells, Nat.ble_eq_true_of_le hfit]
theorem zrow_len (zc : List Value) : ∀ n, (zeroRow zc n).length = n * zc.length
 | 0 => by simp [zeroRow]
 | n + 1 => by rw [zeroRow, List.length_append, zrow_len zc n, Nat.add_mul, Nat.one_mul, Nat.add_comm]
theorem zrow_one {zc : List Value} (h : zc.all one? = true) : ∀ n, (zeroRow zc n).all one? = true
 | 0 => rfl
 | n + 1 => by rw [zeroRow, List.all_append, h, zrow_one h n]; rfl
theorem rwc {x : Operand} {ty e e2 : TypeId} {zc cc : List Value} {b o' n cap : Nat} {slk : Option Nat} (hb : h.get b = some (.cells cc e2 slk false)) (wf : WfH h)
 (w : ∀ h', Chg h h' b (.cells (splice cc o' (zeroRow zc n)) e2 slk false) → KO P X sz ops os L' h' R)
 (ho : o.op = .call { callee := .builtin .clear, args := #[x], argTypes := #[ty] } := by exact rfl) (hg : guardA ops L.tree o.guard = some true := by exact rfl) (hx : kA L x = some (.slice (some ⟨b, o', none⟩) n cap) := by exact rfl)
 (hu : P.underlying ty = some (.slice e) := by exact rfl) (hz : zeroCellsT P e = some zc := by exact rfl) (h1 : zc.all one? = true := by exact rfl) (hfit : o' + n * zc.length ≤ cc.length := by omega) (hp : putK sz L o.dst (.tuple #[]) = some L' := by exact rfl) : KO P X sz ops (o :: os) L h R := by
 have go : ∀ h', aClear P ty (.slice (some ⟨b, o', none⟩) n cap) h = some h' → Chg h h' b (.cells (splice cc o' (zeroRow zc n)) e2 slk false) → KO P X sz ops (o :: os) L h R := fun h' q1 q2 => by
  refine KO_val (v := .tuple #[]) (h' := h') hg ?_ hp (w h' q2)
  rw [ho]
  simp [aOp, tree_le hx, evAll, aBuiltin, q1]
 have hfit2 : o' + (zeroRow zc n).length ≤ cc.length := by rw [zrow_len]; exact hfit
 cases n with
 | zero =>
  refine go h ?_ ⟨by show _ = some (AObj.cells (splice cc o' []) e2 slk false); rw [splice_nil (by omega)]; exact hb, fun _ _ _ => rfl, Nat.le_refl _, wf⟩
  simp only [aClear, hu]
 | succ n =>
  refine go (h.put b (.cells (splice cc o' (zeroRow zc (n + 1))) e2 slk false)) ?_ ⟨by rw [AH.get_put, if_pos rfl], fun j hj _ => by rw [AH.get_put, if_neg hj], Nat.le_refl _, wf.put (wf.lt hb) _⟩
  simp only [aClear, hu, hz, hb, putCells, zrow_one h1, Nat.ble_eq_true_of_le hfit2, Bool.and_self]
end
theorem del_get {cc old zr : List Value} {s a b z n : Nat} (ho : ∀ j, j < n → cc[s + j]? = old[j]?) (hn : old.length = n) (hab : a ≤ b ∧ b ≤ n) (hz : zr.length = b - a) (hs : s + n ≤ cc.length) :
 ∀ j, j < a + (n - b) → (splice (splice cc (s + a) (old.drop b)) (s + (a + (n - b))) zr)[s + j]? = (old.take a ++ old.drop b)[j]? := by
 intro j hj
 have l1 : s + a + (old.drop b).length ≤ cc.length := by rw [List.length_drop]; omega
 have l2 : (splice cc (s + a) (old.drop b)).length = cc.length := splice_length _ _ _ l1
 have hd : (old.drop b).length = n - b := by rw [List.length_drop, hn]
 have ht : (old.take a).length = a := by rw [List.length_take]; omega
 rw [splice_get _ _ _ (by rw [l2]; omega), splice_get _ _ _ l1, if_pos (by omega), List.getElem?_append, ht]
 by_cases h1 : j < a
 ·rw [if_pos (by omega), if_pos h1, List.getElem?_take, if_pos h1, ho j (by omega)]
 ·rw [if_neg (by omega), if_pos (by omega), if_neg h1]
  congr 1; omega
theorem takeAt_ext {c xs : List Value} {o n : Nat} (hl : xs.length = n) (hfit : o + n ≤ c.length) (hg : ∀ j, j < n → c[o + j]? = xs[j]?) : takeAt c o n = some xs := by
 rw [takeAt_mk hfit]
 congr 1
 apply List.ext_getElem?
 intro j
 rw [List.getElem?_take]
 split
 ·rw [List.getElem?_drop]; exact hg j (by assumption)
 ·rw [List.getElem?_eq_none (by omega)]
end Go.Proofs.Xx
namespace Go.Proofs.Xx
open Go Go.Proofs
set_option linter.unusedSimpArgs false
set_option linter.unusedVariables false
set_option linter.unusedSectionVars false
set_option maxRecDepth 100000
set_option maxHeartbeats 4000000
theorem delI_ok {h0 h : AH} {rs : List Rs} {v : SlV} {l : List Int} (i : Nat) (hi : i < l.length) (hl : l.length ≤ 1000000) (S : Hs h0 h (.sl v.val 3 1 eI l :: rs)) :
 Fn Tryz.prog Xh 50 [v.val, .int .i64 i, .int .i64 ((i : Int) + 1)] h (fun u h' => Hs h0 h' (.sl u 3 1 eI (l.take i ++ l.drop (i + 1)) :: rs)) := by
 have S0 := S
 obtain ⟨f1, k1, k2, k3⟩ := S.sep
 have hr := Rd.of_sl S .here
 rcases k1 with ⟨-, rfl⟩ | ⟨b, o, cc, slk, cap, e1, g1, fb, t1, c1, s1⟩
 ·simp at hi
 rw [e1] at hr ⊢
 have hb := g1
 have w := S.wf
 have hcc : o + cap * 1 ≤ cc.length := c1.2
 replace S := Hs.start S.wf
 have hfl := flatMap_length (enc := eI) (z := 1) (by intro _; rfl) l
 have hcap := c1.1
 refine Fn_K (by first | rfl | exact KX.no _ _ _ (by decide) rfl) Tryz.func50 rfl rfl ?_
 all_goals (repeat' (first | refine K_seq ?_ | refine k_cond rfl ?_ | refine K_skip ?_ | refine K_exit ?_ | refine k_block ?_ | refine K_scope ?_ | refine K_label ?_ | (refine K_region (id := 0) ?_; refine mv ?_; refine KO_nil ?_) | (refine K_region (id := 1) ?_; refine mv ?_; refine mv ?_; refine mv ?_; refine mv ?_; (first | refine lnB S ?_ | refine lnS S rfl rfl ?_))))
 refine rw3 (l := i) (r := i + 1) (m := l.length) hb w (fun ha ca => ?_)
 have xa : Ext h ha := ⟨ca.next, fun j hj => by
  by_cases q : j = b
  ·subst q; rw [ca.at_, hb]
  ·exact ca.old j q hj, ca.wf⟩
 have ra := hr.ext w xa
 have wa := ca.wf
 have ba := ca.at_
 clear S
 have S := Hs.start wa
 (refine KO_nil ?_)
 skip
 all_goals (repeat' (first | refine K_seq ?_ | refine k_cond rfl ?_ | refine K_skip ?_ | refine K_exit ?_ | refine k_block ?_ | refine K_scope ?_ | refine K_label ?_ | (refine K_region (id := 2) ?_; refine mv ?_; refine mv ?_; (first | refine cT ?_ | refine cF ?_ | (refine cS ?_ ?_ <;> intro hc)) <;> (refine KO_nil ?_)) | (refine K_region (id := 3) ?_; refine mv ?_; refine mv ?_; refine KO_nil ?_) | (refine K_region (id := 4) ?_; refine mv ?_; (first | refine lnB S ?_ | refine lnS S rfl rfl ?_); refine mv ?_; refine KO_nil ?_) | (refine K_draw (id := 5) ?_; refine mv ?_; refine mv ?_)))
 refine rw2 (l := 0) (r := i) ba (fun o2 q1 _ => ?_)
 rw [show o2 = o by have := q1 (by omega); omega]
 refine mv ?_; refine mv ?_
 refine rw2 (l := i + 1) (r := l.length) ba (fun o3 q3 q4 => ?_)
 have ru : Rd ha (.slice (some ⟨b, o3, none⟩) (l.length - (i + 1)) (cap - (i + 1))) 1 (l.length - (i + 1)) ((l.drop (i + 1)).flatMap eI) := by
  refine .inr ⟨b, o3, _, cc, 3, slk, false, rfl, ba, ?_⟩
  rcases Nat.lt_or_ge (i + 1) cap with z | z
  ·have z1 := q3 z
   have z2 : o3 = o + (i + 1) * 1 := z1
   have := takeAt_sub (i := (i + 1) * 1) (m := (l.length - (i + 1)) * 1) t1 (by omega)
   rw [z2, this, flatMap_drop (z := 1) (by intro _; rfl), List.take_of_length_le (by rw [List.length_drop, hfl]; omega)]
  ·rw [show l.length - (i + 1) = 0 by omega, List.drop_of_length_le (by omega)]
   rfl
 have hone : ((l.drop (i + 1)).flatMap eI).all one? = true := by
  rw [List.all_eq_true]
  intro x hx
  obtain ⟨y, -, hy⟩ := List.mem_flatMap.1 hx
  simp [eI] at hy
  subst hy; rfl
 refine rwa (z := 1) ba wa ru (fun hd cd => ?_)
 (refine mv ?_; refine KO_nil ?_)
 have hln : l.length - (i - 0 + (l.length - (i + 1))) = 1 := by omega
 (repeat (refine K_seq ?_)); refine K_region (id := 6) ?_; refine mv ?_; refine mv ?_; refine vl ?_; refine mv ?_
 refine rw2 (l := i - 0 + (l.length - (i + 1))) (r := l.length) cd.at_ (fun o4 q5 _ => ?_)
 have q6 := q5 (by omega)
 have hq6 : o4 = o + (i - 0 + (l.length - (i + 1))) * 1 := q6
 have hsl : (splice cc (o + (i - 0) * 1) ((l.drop (i + 1)).flatMap eI)).length = cc.length := splice_length _ _ _ (by rw [flatMap_length (z := 1) (by intro _; rfl), List.length_drop]; omega)
 refine rwc cd.at_ cd.wf (fun he ce => ?_) (hfit := ?_)
 rotate_left
 ·rw [hsl]
  show o4 + (l.length - (i - 0 + (l.length - (i + 1)))) * 1 ≤ cc.length
  omega
 (refine KO_nil ?_)
 skip
 all_goals (repeat' (first | refine K_seq ?_ | refine k_cond rfl ?_ | refine K_skip ?_ | refine K_exit ?_ | refine k_block ?_ | refine K_scope ?_ | refine K_label ?_ | (refine K_region (id := 7) ?_; refine mv ?_; refine mv ?_; refine KO_nil ?_)))
 refine K_ret ⟨_, rfl, ?_⟩
 have C := (ca.trans cd).trans ce
 have hm : ∀ a c : Nat, a - 0 + c = a + c := fun a c => by omega
 have hlen : (l.take i ++ l.drop (i + 1)).length = i - 0 + (l.length - (i + 1)) := by rw [List.length_append, List.length_take, List.length_drop]; omega
 have hzl : (zeroRow (Value.int IntKind.i64 0).cells.toList (l.length - (i - 0 + (l.length - (i + 1))))).length = (i + 1) * 1 - i * 1 := by
  rw [zrow_len, hln]; show 1 * 1 = _; omega
 have hdrop := flatMap_drop (enc := eI) (z := 1) (by intro _; rfl) l (i + 1)
 have htake := flatMap_take (enc := eI) (z := 1) (by intro _; rfl) l i
 show Hs h0 he (.sl (.slice (some ⟨b, o, none⟩) (i - 0 + (l.length - (i + 1))) (cap - 0)) 3 1 eI (l.take i ++ l.drop (i + 1)) :: rs)
 refine S0.turn .here C.next C.wf fun fp p1 p2 => ?_
 rcases p1 with ⟨p1, -⟩ | ⟨b2, o2, cc2, sl2, cap2, p1, -, p3, -⟩
 ·rw [p1] at e1; cases e1
 obtain rfl : b2 = b := by rw [p1] at e1; cases e1; rfl
 refine ⟨fun j hj hf => C.old j (fun q => by subst q; exact hf p3) hj, fun j => j = b2, .inr ⟨b2, o, _, slk, cap - 0, by rw [hlen], C.at_, rfl, ?_, ⟨by rw [hlen]; omega, ?_⟩, s1⟩, fun j hj => ?_⟩
 ·rw [hlen]
  have hg : ∀ j, j < l.length * 1 → cc[o + j]? = (l.flatMap eI)[j]? := fun j hj => takeAt_get t1 hj
  have D := del_get (zr := zeroRow (Value.int IntKind.i64 0).cells.toList (l.length - (i - 0 + (l.length - (i + 1))))) (a := i * 1) (b := (i + 1) * 1) (z := 1) hg hfl (by omega) hzl (by omega)
  rw [hdrop, hq6, Nat.sub_zero, show (i + (l.length - (i + 1))) * 1 = i * 1 + (l.length * 1 - (i + 1) * 1) by omega]
  have e2 : (l.take i ++ l.drop (i + 1)).flatMap eI = (l.flatMap eI).take (i * 1) ++ (l.flatMap eI).drop ((i + 1) * 1) := by rw [List.flatMap_append, htake, hdrop]
  rw [e2]
  rw [Nat.sub_zero] at D
  refine takeAt_ext ?_ ?_ D
  ·rw [List.length_append, List.length_take, List.length_drop, hfl]; omega
  ·rw [splice_length, splice_length]
   ·omega
   ·rw [List.length_drop, hfl]; omega
   ·rw [splice_length _ _ _ (by rw [List.length_drop, hfl]; omega)]
    have hz2 := hzl
    simp only [Nat.sub_zero] at hz2 ⊢
    rw [hz2]; omega
 ·rw [splice_length, hsl]
  ·show o + (cap - 0) * 1 ≤ _; omega
  ·rw [hsl, hzl]; omega
 ·subst hj; exact ⟨C.wf.lt C.at_, .inl p3⟩
end Go.Proofs.Xx
