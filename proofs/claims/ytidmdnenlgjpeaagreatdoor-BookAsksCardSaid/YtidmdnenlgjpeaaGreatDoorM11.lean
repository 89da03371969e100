/-
  Words: the length of a number, random words.
-/
import Derived.Test.YtidmdnenlgjpeaaGreatDoorM9
import Derived.Test.YtidmdnenlgjpeaaGreatDoorM10
import Derived.Test.YtidmdnenlgjpeaaGreatDoorM7

namespace Go.Proofs.Xx
open Go Go.Proofs
set_option linter.unusedSimpArgs false
set_option linter.unusedVariables false
set_option linter.unusedSectionVars false
set_option maxRecDepth 100000

def lenTab : List UInt8 := [0, 1] ++ List.replicate 2 2 ++ List.replicate 4 3 ++ List.replicate 8 4 ++ List.replicate 16 5 ++ List.replicate 32 6 ++ List.replicate 64 7 ++ List.replicate 128 8
theorem lenTab_ok : ∀ n, n < 256 → 0 < n → (lenTab.getD n 0).toNat ≤ 8 ∧ n < 2 ^ (lenTab.getD n 0).toNat ∧ 2 ^ (lenTab.getD n 0).toNat ≤ 2 * n := by decide +kernel
theorem lenTab_len : lenTab.length = 256 := by decide +kernel
theorem toNat_pred (j : Nat) : ((j : Int) - 1).toNat = j - 1 := by omega
theorem toNat_succ (j : Nat) : ((j : Int) + 1).toNat = j + 1 := by omega
theorem toNat_sum (i j : Nat) : ((i : Int) + (j : Int)).toNat = i + j := by omega
variable [Flag]
theorem len64_ok {h0 : AH} (w : WfH h0) (n : Nat) (hn : n < 256) : Fn Tryz.prog Xh 162 [.int .u64 n] h0 (fun v h' => v = .int .i64 ((lenTab.getD n 0).toNat : Int) ∧ Hs h0 h' []) := by
  have S := Hs.start w
  have hl := lenTab_len
  have hb : (lenTab.getD n 0).toNat < 256 := UInt8.toNat_lt _
  refine Fn_K rfl Tryz.func162 rfl rfl ?_
  all_goals (repeat' (first | refine K_seq ?_ | refine k_cond rfl ?_ | refine K_skip ?_ | refine K_exit ?_ | refine k_block ?_ | refine K_scope ?_ | refine K_label ?_ | (refine K_region (id := 0) ?_; refine mv ?_; refine KO_nil ?_) | (refine K_region (id := 1) ?_; refine mv ?_; (first | refine cT ?_ | refine cF ?_ | (refine cS ?_ ?_ <;> intro hc)) <;> (refine KO_nil ?_)) | (refine K_region (id := 4) ?_; refine mv ?_; (first | refine cT ?_ | refine cF ?_ | (refine cS ?_ ?_ <;> intro hc)) <;> (refine KO_nil ?_)) | (refine K_region (id := 7) ?_; refine mv ?_; (first | refine cT ?_ | refine cF ?_ | (refine cS ?_ ?_ <;> intro hc)) <;> (refine KO_nil ?_))))
  refine K_region (id := 10) ?_
  refine mv ?_; refine mv ?_; refine cU ?_
  refine ti (l := lenTab) ?_
  rw [Int.toNat_natCast]
  (first | refine cI ?_ | refine vl ?_); (first | refine ad ?_ | refine vl ?_); refine mv ?_; refine KO_nil ?_
  all_goals (repeat' (first | refine K_seq ?_ | refine k_cond rfl ?_ | refine K_skip ?_ | refine K_exit ?_ | refine k_block ?_ | refine K_scope ?_ | refine K_label ?_ | (refine K_region (id := 0) ?_; refine mv ?_; refine KO_nil ?_) | (refine K_region (id := 1) ?_; refine mv ?_; (first | refine cT ?_ | refine cF ?_ | (refine cS ?_ ?_ <;> intro hc)) <;> (refine KO_nil ?_)) | (refine K_region (id := 2) ?_; refine mv ?_; (first | refine sR1 ?_ | refine sR ?_); refine mv ?_; refine KO_nil ?_) | (refine K_region (id := 3) ?_; refine mv ?_; refine KO_nil ?_) | (refine K_region (id := 4) ?_; refine mv ?_; (first | refine cT ?_ | refine cF ?_ | (refine cS ?_ ?_ <;> intro hc)) <;> (refine KO_nil ?_)) | (refine K_region (id := 5) ?_; refine mv ?_; (first | refine sR1 ?_ | refine sR ?_); refine mv ?_; refine KO_nil ?_) | (refine K_region (id := 6) ?_; refine mv ?_; (first | refine ad ?_ | refine vl ?_); refine mv ?_; refine KO_nil ?_) | (refine K_region (id := 7) ?_; refine mv ?_; (first | refine cT ?_ | refine cF ?_ | (refine cS ?_ ?_ <;> intro hc)) <;> (refine KO_nil ?_)) | (refine K_region (id := 8) ?_; refine mv ?_; (first | refine sR1 ?_ | refine sR ?_); refine mv ?_; refine KO_nil ?_) | (refine K_region (id := 9) ?_; refine mv ?_; (first | refine ad ?_ | refine vl ?_); refine mv ?_; refine KO_nil ?_) | (refine K_region (id := 10) ?_; refine mv ?_; refine mv ?_; (first | refine cU ?_ | refine vl ?_); (first | refine ti ?_ | refine vl ?_); (first | refine cI ?_ | refine vl ?_); (first | refine ad ?_ | refine vl ?_); refine mv ?_; refine KO_nil ?_)))
  refine K_ret ⟨_, rfl, ?_⟩
  exact ⟨by show Value.int .i64 (0 + _) = _; rw [Int.zero_add], S⟩
theorem len_ok {h0 : AH} (w : WfH h0) (n : Nat) (hn : n < 256) : Fn Tryz.prog Xh 126 [.int .u64 n] h0 (fun v h' => v = .int .i64 ((lenTab.getD n 0).toNat : Int) ∧ Hs h0 h' []) := by
  have S := Hs.start w
  refine Fn_K rfl Tryz.func126 rfl rfl ?_
  all_goals (repeat' (first | refine K_seq ?_ | refine k_cond rfl ?_ | refine K_skip ?_ | refine K_exit ?_ | refine k_block ?_ | refine K_scope ?_ | refine K_label ?_ | (refine K_region (id := 0) ?_; refine mv ?_; refine KO_nil ?_) | (refine K_region (id := 2) ?_; refine mv ?_)))
  (refine KO_fn rfl rfl rfl rfl rfl ((len64_ok S.wf n hn).mono ?_); rintro _ h ⟨rfl, x⟩) <;> (replace S := S.join0 x; clear x; refine mv ?_; refine KO_nil ?_)
  all_goals (repeat' (first | refine K_seq ?_ | refine k_cond rfl ?_ | refine K_skip ?_ | refine K_exit ?_ | refine k_block ?_ | refine K_scope ?_ | refine K_label ?_ | (refine K_region (id := 0) ?_; refine mv ?_; refine KO_nil ?_) | (refine K_region (id := 1) ?_; refine mv ?_) | (refine K_region (id := 2) ?_; refine mv ?_)))
  refine K_ret ⟨_, rfl, ?_⟩
  exact ⟨rfl, S⟩
theorem npot_ok {h0 : AH} (w : WfH h0) (n : Nat) (hn : 0 < n ∧ n < 256) : Fn Tryz.prog Xh 189 [.int .i64 n] h0 (fun v h' => ∃ P : Int, v = .int .u64 P ∧ (n : Int) < P ∧ P ≤ 2 * n ∧ Hs h0 h' []) := by
  have S := Hs.start w
  have hk := lenTab_ok n hn.2 hn.1
  refine Fn_K rfl Tryz.func189 rfl rfl ?_
  all_goals (repeat' (first | refine K_seq ?_ | refine k_cond rfl ?_ | refine K_skip ?_ | refine K_exit ?_ | refine k_block ?_ | refine K_scope ?_ | refine K_label ?_ | (refine K_region (id := 0) ?_; refine mv ?_; refine KO_nil ?_) | (refine K_region (id := 1) ?_; refine mv ?_; (first | refine cW ?_ | refine vl ?_))))
  (refine KO_fn rfl rfl rfl rfl rfl ((len_ok S.wf n hn.2).mono ?_); rintro _ h ⟨rfl, x⟩) <;> (replace S := S.join0 x; clear x; (first | refine sL ?_ | (refine aW ?_; intro r1 hr1 hr2)); refine mv ?_; refine KO_nil ?_)
  all_goals (repeat' (first | refine K_seq ?_ | refine k_cond rfl ?_ | refine K_skip ?_ | refine K_exit ?_ | refine k_block ?_ | refine K_scope ?_ | refine K_label ?_))
  refine K_ret ⟨_, rfl, ?_⟩
  refine ⟨_, rfl, ?_, ?_, S⟩
  · have : (n : Int) < ((2 ^ (lenTab.getD n 0).toNat : Nat) : Int) := by exact_mod_cast hk.2.1
    simpa using this
  · have : ((2 ^ (lenTab.getD n 0).toNat : Nat) : Int) ≤ ((2 * n : Nat) : Int) := by exact_mod_cast hk.2.2
    simpa using this
theorem xnext_ok {h0 h : AH} {rs : List Rs} {bs : Nat} {z : Int} (S : Hs h0 h (.blk bs [.int .u64 z] 217 :: rs)) (hz : 0 ≤ z ∧ z ≤ 18446744073709551615) : Fn Tryz.prog Xh 190 [.pointer (some ⟨bs, 0, none⟩)] h (fun r h' => ∃ y, r = .int .u64 y ∧ (0 ≤ y ∧ y ≤ 18446744073709551615) ∧ Hs h0 h' (.blk bs [.int .u64 y] 217 :: rs)) := by
  refine Fn_K rfl Tryz.func190 rfl rfl ?_
  all_goals (repeat' (first | refine K_seq ?_ | refine k_cond rfl ?_ | refine K_skip ?_ | refine K_exit ?_ | refine k_block ?_ | refine K_scope ?_ | refine K_label ?_ | (refine K_region (id := 0) ?_; refine mv ?_; refine KO_nil ?_) | (refine K_draw (id := 1) ?_; refine mv ?_; refine vl ?_; (first | refine lB S rfl rfl ?_ | refine lES2 S rfl rfl ?_ | refine lEB S ?_ | refine lH S ?_); refine mv ?_; refine vl ?_; (first | refine lB S rfl rfl ?_ | refine lES2 S rfl rfl ?_ | refine lEB S ?_ | refine lH S ?_); (first | refine sL ?_ | (refine aW ?_; intro r1 hr1 hr2)); (first | refine sL ?_ | (refine aW ?_; intro r1 hr1 hr2)); refine vl ?_; (first | (refine sB S rfl rfl ?_; clear S; intro h S) | (refine sE2 S rfl rfl ?_; clear S; intro h S)); refine KO_nil ?_) | (refine K_draw (id := 2) ?_; refine mv ?_; refine vl ?_; (first | refine lB S rfl rfl ?_ | refine lES2 S rfl rfl ?_ | refine lEB S ?_ | refine lH S ?_); refine mv ?_; refine vl ?_; (first | refine lB S rfl rfl ?_ | refine lES2 S rfl rfl ?_ | refine lEB S ?_ | refine lH S ?_); (first | refine sR1 ?_ | refine sR ?_); (first | refine sL ?_ | (refine aW ?_; intro r1 hr1 hr2)); refine vl ?_; (first | (refine sB S rfl rfl ?_; clear S; intro h S) | (refine sE2 S rfl rfl ?_; clear S; intro h S)); refine KO_nil ?_) | (refine K_draw (id := 3) ?_; refine mv ?_; refine vl ?_; (first | refine lB S rfl rfl ?_ | refine lES2 S rfl rfl ?_ | refine lEB S ?_ | refine lH S ?_); refine mv ?_; refine vl ?_; (first | refine lB S rfl rfl ?_ | refine lES2 S rfl rfl ?_ | refine lEB S ?_ | refine lH S ?_); (first | refine sL ?_ | (refine aW ?_; intro r1 hr1 hr2)); (first | refine sL ?_ | (refine aW ?_; intro r1 hr1 hr2)); refine vl ?_; (first | (refine sB S rfl rfl ?_; clear S; intro h S) | (refine sE2 S rfl rfl ?_; clear S; intro h S)); refine KO_nil ?_) | (refine K_region (id := 4) ?_; refine mv ?_; refine vl ?_; (first | refine lB S rfl rfl ?_ | refine lES2 S rfl rfl ?_ | refine lEB S ?_ | refine lH S ?_); refine mv ?_; refine KO_nil ?_)))
  refine K_ret ⟨_, rfl, ?_⟩
  exact ⟨_, rfl, by omega, S⟩
end Go.Proofs.Xx

/-
  Sorting in place, by the order of ints.
-/
namespace Go.Proofs.Xx
open Go Go.Proofs
set_option linter.unusedSimpArgs false
set_option linter.unusedVariables false
set_option linter.unusedSectionVars false
set_option maxRecDepth 100000

theorem sLt_ord : WOrd sLt := ⟨fun x h => sLt_irr x h, fun h1 h2 => sLt_trans h1 h2, fun h1 h2 => sLe_trans h1 h2⟩
variable [Flag]
theorem isNaN_ok {h0 : AH} (w : WfH h0) (x : List UInt8) : Fn Tryz.prog Xh 193 [str x] h0 (fun v h' => v = .bool false ∧ Hs h0 h' []) := by
  have S := Hs.start w
  refine Fn_K rfl Tryz.func193 rfl rfl ?_
  all_goals (repeat' (first | refine K_seq ?_ | (refine K_region (id := 0) ?_; refine mv ?_; refine KO_nil ?_) | (refine K_region (id := 1) ?_; refine mv ?_; refine mv ?_; (refine tS ?_ ?_ <;> intro hc) <;> (refine mv ?_; refine KO_nil ?_))))
  · refine K_ret ⟨_, rfl, ?_⟩
    exact ⟨rfl, S⟩
  all_goals exact absurd rfl (by assumption)
theorem less_ok {h0 : AH} (w : WfH h0) (x y : List UInt8) : Fn Tryz.prog Xh 158 [str x, str y] h0 (fun v h' => BoolIs v (sLt x y) ∧ Hs h0 h' []) := by
  have S := Hs.start w
  refine Fn_K rfl Tryz.func158 rfl rfl ?_
  all_goals (repeat' (first | refine K_seq ?_ | (refine K_region (id := 0) ?_; refine mv ?_; refine KO_nil ?_) | (refine K_region (id := 1) ?_; refine mv ?_)))
  (refine KO_fn rfl rfl rfl rfl rfl ((isNaN_ok S.wf x).mono ?_); rintro _ h ⟨rfl, x⟩) <;> (replace S := S.join0 x; clear x; refine mv ?_; refine off ?_; (first | (refine off ?_; refine off ?_; refine vl ?_; refine mv ?_; refine mv ?_; refine mv ?_; (first | (refine tO ?_ ?_ <;> intro hc)) <;> (refine vl ?_; refine mv ?_; refine KO_nil ?_))))
  all_goals (repeat' (fail))
  all_goals (refine K_ret ⟨_, rfl, ?_⟩)
  · exact ⟨.inl ⟨rfl, by assumption⟩, S⟩
  · exact ⟨.inr ⟨rfl, by assumption⟩, S⟩

theorem ins_o {h0 h : AH} {rs : List Rs} {v : Value} {l : List (List UInt8)} (a b : Nat) (S : Hs h0 h (.sl v 9 1 eS l :: rs)) (hab : a ≤ b) (hb : b ≤ l.length) (hl : l.length ≤ 1000000) :
    Fn Tryz.prog Xh 152 [v, .int .i64 a, .int .i64 b] h (fun _ h' => ∃ l', Sw a b l l' ∧ Srt sLt a b l' ∧ Hs h0 h' (.sl v 9 1 eS l' :: rs)) := by
  have W : WOrd sLt := sLt_ord
  refine Fn_K rfl Tryz.func152 rfl rfl ?_
  all_goals (repeat' (first | refine K_seq ?_ | refine k_block ?_ | (refine K_region (id := 0) ?_; refine mv ?_; refine ad ?_; refine mv ?_; refine KO_nil ?_)))
  refine k_loop (σ := Nat × List (List UInt8)) (fun (i, m) h' => Hs h0 h' (.sl v 9 1 eS m :: rs) ∧ a < i ∧ Sw a b l m ∧ Srt sLt a (min i b) m) (fun (i, m) => b - i) (fun (i, m) => [(0, v), (1, .int .i64 a), (2, .int .i64 b), (6, .int .i64 i)]) (a + 1, l) (by repeat (first | exact Ks.le_nil _ | refine Ks.le_cons rfl ?_)) ?_ ?_
  · exact ⟨S, by omega, .refl _, fun i j q1 q2 q3 => by omega⟩
  clear S
  rintro ⟨i, m⟩ h ⟨S, h1, h2, h3⟩
  have hml := h2.len
  all_goals (repeat' (first | refine K_seq ?_ | refine k_cond rfl ?_ | refine K_skip ?_ | refine K_exit ?_ | refine k_block ?_ | (refine K_region (id := 1) ?_; refine mv ?_; refine mv ?_; (first | (refine cS ?_ ?_ <;> intro hc)) <;> (refine KO_nil ?_)) | (refine K_region (id := 3) ?_; refine mv ?_; refine mv ?_; refine KO_nil ?_)))
  · have hib : i < b := by omega
    rw [Nat.min_eq_left (by omega)] at h3
    refine k_loop (σ := Nat × List (List UInt8)) (fun (j, n) h' => Hs h0 h' (.sl v 9 1 eS n :: rs) ∧ a ≤ j ∧ j ≤ i ∧ Sw a b l n ∧ InsI sLt a i j n) (fun (j, n) => j) (fun (j, n) => [(0, v), (1, .int .i64 a), (2, .int .i64 b), (6, .int .i64 i), (7, .int .i64 j)]) (i, m) (by repeat (first | exact Ks.le_nil _ | refine Ks.le_cons rfl ?_)) ?_ ?_
    · exact ⟨S, by omega, Nat.le_refl _, h2, InsI.start h3⟩
    clear S h2 h3 hml
    rintro ⟨j, n⟩ h ⟨S, k1, k2, k3, k4⟩
    have hnl := k3.len
    skip
    all_goals (repeat' (first | refine K_seq ?_ | refine k_cond rfl ?_ | refine K_exit ?_ | (refine K_region (id := 2) ?_; refine mv ?_; refine ad ?_; refine mv ?_; refine KO_nil ?_) | (refine K_draw (id := 4) ?_; refine mv ?_; refine mv ?_; (first | (refine cS ?_ ?_ <;> intro hc)) <;> (refine mv ?_; (first | refine off ?_ | refine mv ?_); (first | refine off ?_ | refine mv ?_); (first | refine off ?_ | (refine ixS2 S rfl rfl ?_)); (first | refine off ?_ | (refine lES2 S rfl rfl ?_)); (first | refine off ?_ | refine mv ?_); (first | refine off ?_ | refine mv ?_); (first | refine off ?_ | (refine sb ?_)); (first | refine off ?_ | (refine ixS2 S rfl rfl ?_)); (first | refine off ?_ | (refine lES2 S rfl rfl ?_)); (first | (refine off ?_; refine vl ?_; refine KO_nil ?_) | skip)))))
    · simp only [toNat_pred, toNat_succ, toNat_sum, Int.toNat_natCast]
      (refine KO_fn rfl rfl rfl rfl rfl ((less_ok S.wf _ _).mono ?_); rintro _ h ⟨⟨rfl, hq⟩ | ⟨rfl, hq⟩, x⟩) <;> (replace S := S.join0 x; clear x; refine vl ?_; refine KO_nil ?_)
      · all_goals (repeat' (first | refine K_seq ?_ | refine k_cond rfl ?_ | refine K_skip ?_ | refine k_block ?_ | (refine K_region (id := 5) ?_; refine mv ?_; refine sb ?_; refine mv ?_; refine KO_nil ?_) | (refine K_draw (id := 6) ?_; refine mv ?_; refine mv ?_; refine mv ?_; refine mv ?_; refine sb ?_; refine mv ?_; refine mv ?_; refine sb ?_; refine ixS2 S rfl rfl ?_; refine lES2 S rfl rfl ?_; refine mv ?_; refine mv ?_; refine ixS2 S rfl rfl ?_; refine lES2 S rfl rfl ?_; refine ixS2 S rfl rfl ?_; (first | (refine sE2 S rfl rfl ?_; clear S; intro h S)); refine ixS2 S rfl rfl ?_; (first | (refine sE2 S rfl rfl ?_; clear S; intro h S)); refine KO_nil ?_)))
        simp only [toNat_pred, toNat_succ, toNat_sum, Int.toNat_natCast] at S
        refine ⟨(j - 1, swp n j (j - 1)), ?_, ?_, (by repeat (first | exact Ks.le_nil _ | refine Ks.le_cons rfl ?_ | refine Ks.le_int ?_))⟩
        · show j - 1 < j; omega
        · exact ⟨S, by omega, by omega, k3.step j (j - 1) ⟨by omega, by omega⟩ ⟨by omega, by omega⟩ (by omega), k4.next W (by omega) k2 (by omega) hq⟩
      · all_goals (repeat' (first | refine k_cond rfl ?_ | refine K_exit ?_ | (refine K_region (id := 2) ?_; refine mv ?_; refine ad ?_; refine mv ?_; refine KO_nil ?_)))
        refine ⟨(i + 1, n), ?_, ?_, (by repeat (first | exact Ks.le_nil _ | refine Ks.le_cons rfl ?_))⟩
        · show b - (i + 1) < b - i; omega
        · simp only [Nat.min_eq_left (show i + 1 ≤ b by omega)]
          exact ⟨S, by omega, k3, k4.done W (.inr hq)⟩
    · refine ⟨(i + 1, n), ?_, ?_, (by repeat (first | exact Ks.le_nil _ | refine Ks.le_cons rfl ?_))⟩
      · show b - (i + 1) < b - i; omega
      · simp only [Nat.min_eq_left (show i + 1 ≤ b by omega)]
        exact ⟨S, by omega, k3, k4.done W (.inl (by omega))⟩
  · rw [Nat.min_eq_right (by omega)] at h3
    refine ⟨_, rfl, ?_⟩
    exact ⟨m, h2, h3, S⟩

theorem sift_o {h0 h : AH} {rs : List Rs} {v : Value} {l : List (List UInt8)} (lo hi f : Nat) (S : Hs h0 h (.sl v 9 1 eS l :: rs)) (hlo : lo ≤ hi) (hb : f + hi ≤ l.length) (hl : l.length ≤ 1000000) (hh : Heap sLt f (lo + 1) hi l) :
    Fn Tryz.prog Xh 188 [v, .int .i64 lo, .int .i64 hi, .int .i64 f] h (fun _ h' => ∃ l', Sw f (f + hi) l l' ∧ Heap sLt f lo hi l' ∧ Hs h0 h' (.sl v 9 1 eS l' :: rs)) := by
  have W : WOrd sLt := sLt_ord
  refine Fn_K rfl Tryz.func188 rfl rfl ?_
  all_goals (repeat' (first | refine K_seq ?_ | refine k_block ?_ | (refine K_region (id := 0) ?_; refine mv ?_; refine mv ?_; refine KO_nil ?_)))
  refine k_loop (σ := Nat × List (List UInt8)) (fun (root, m) h' => Hs h0 h' (.sl v 9 1 eS m :: rs) ∧ (lo ≤ root ∧ root ≤ hi) ∧ Sw f (f + hi) l m ∧ SiftI sLt f lo hi root m) (fun (root, m) => hi - root) (fun (root, m) => [(0, v), (1, .int .i64 lo), (2, .int .i64 hi), (3, .int .i64 f), (8, .int .i64 root)]) (lo, l) (by repeat (first | exact Ks.le_nil _ | refine Ks.le_cons rfl ?_)) ?_ ?_
  · exact ⟨S, ⟨Nat.le_refl _, hlo⟩, .refl _, .start hh⟩
  clear S
  rintro ⟨root, m⟩ h ⟨S, h1, h2, h3⟩
  have hml := h2.len
  skip
  by_cases hc0 : 2 * root + 1 < hi
  rotate_left
  · all_goals (repeat' (first | refine K_seq ?_ | refine k_cond rfl ?_ | refine K_exit ?_ | refine k_block ?_ | (refine K_region (id := 1) ?_; refine mv ?_; refine ml ?_; refine ad ?_; refine mv ?_; refine KO_nil ?_) | (refine K_region (id := 2) ?_; refine mv ?_; refine mv ?_; (refine cT ?_) <;> (refine KO_nil ?_))))
    refine ⟨_, rfl, ?_⟩
    exact ⟨m, h2, h3.done ⟨fun q => by omega, fun q => by omega⟩, S⟩
  have e1 : (2 : Int) * (root : Int) + 1 = ((2 * root + 1 : Nat) : Int) := by omega
  have e2 : ((f : Int) + ((2 * root + 1 : Nat) : Int)).toNat = f + (2 * root + 1) := by omega
  have e3 : ((f : Int) + ((2 * root + 1 : Nat) : Int) + 1).toNat = f + (2 * root + 2) := by omega
  have e4 : ((2 * root + 1 : Nat) : Int) + 1 = ((2 * root + 2 : Nat) : Int) := by omega
  have e5 : ((f : Int) + ((2 * root + 2 : Nat) : Int)).toNat = f + (2 * root + 2) := by omega
  have fin : ∀ c : Nat, (c = 2 * root + 1 ∨ c = 2 * root + 2) → c < hi → sLt (m.getD (f + root) default) (m.getD (f + c) default) → (∀ d, (d = 2 * root + 1 ∨ d = 2 * root + 2) → d < hi → ¬ sLt (m.getD (f + c) default) (m.getD (f + d) default)) → SiftI sLt f lo hi c (swp m (f + root) (f + c)) := fun c g1 g2 g3 g4 => h3.next W h1.1 g1 g2 (by omega) g4 g3
  have stop : ∀ c : Nat, (c = 2 * root + 1 ∨ c = 2 * root + 2) → c < hi → ¬ sLt (m.getD (f + root) default) (m.getD (f + c) default) → (∀ d, (d = 2 * root + 1 ∨ d = 2 * root + 2) → d < hi → ¬ sLt (m.getD (f + c) default) (m.getD (f + d) default)) → Heap sLt f lo hi m := fun c g1 g2 g3 g4 =>
    h3.done ⟨fun q => W.ntr (g4 _ (.inl rfl) q) g3, fun q => W.ntr (g4 _ (.inr rfl) q) g3⟩
  refine k_block ?_
  (repeat (refine K_seq ?_)); refine K_region (id := 1) ?_; refine mv ?_; refine ml ?_; refine ad ?_; refine mv ?_; refine KO_nil ?_
  simp only [e1]
  (repeat (refine K_seq ?_)); refine K_region (id := 2) ?_; refine mv ?_; refine mv ?_; (refine cF ?_) <;> (refine KO_nil ?_)
  refine k_cond rfl ?_; refine K_skip ?_
  refine K_cut (σ := Nat) (fun c h' => Hs h0 h' (.sl v 9 1 eS m :: rs) ∧ (c = 2 * root + 1 ∨ c = 2 * root + 2) ∧ c < hi ∧ ∀ d, (d = 2 * root + 1 ∨ d = 2 * root + 2) → d < hi → ¬ sLt (m.getD (f + c) default) (m.getD (f + d) default)) (fun c => [(0, v), (1, .int .i64 lo), (2, .int .i64 hi), (3, .int .i64 f), (8, .int .i64 root), (9, .int .i64 c)]) ?_ ?_
  · all_goals (repeat' (first | refine K_seq ?_ | refine k_cond rfl ?_ | refine K_skip ?_ | (refine K_draw (id := 3) ?_; refine mv ?_; refine ad ?_; refine mv ?_; (first | (refine cS ?_ ?_ <;> intro hc)) <;> (refine mv ?_; (first | refine off ?_ | refine mv ?_); (first | refine off ?_ | refine mv ?_); (first | refine off ?_ | refine mv ?_); (first | refine off ?_ | (refine ad ?_)); (first | refine off ?_ | (refine ixS2 S rfl rfl ?_)); (first | refine off ?_ | (refine lES2 S rfl rfl ?_)); (first | refine off ?_ | refine mv ?_); (first | refine off ?_ | refine mv ?_); (first | refine off ?_ | refine mv ?_); (first | refine off ?_ | (refine ad ?_)); (first | refine off ?_ | (refine ad ?_)); (first | refine off ?_ | (refine ixS2 S rfl rfl ?_)); (first | refine off ?_ | (refine lES2 S rfl rfl ?_)); (first | (refine off ?_; refine vl ?_; refine KO_nil ?_) | skip)))))
    · simp only [e2, e3]
      (refine KO_fn rfl rfl rfl rfl rfl ((less_ok S.wf _ _).mono ?_); rintro _ h ⟨⟨rfl, hq⟩ | ⟨rfl, hq⟩, x⟩) <;> (replace S := S.join0 x; clear x; refine vl ?_; refine KO_nil ?_)
      · all_goals (repeat' (first | refine k_cond rfl ?_ | (refine K_region (id := 4) ?_; refine mv ?_; refine ad ?_; refine mv ?_; refine KO_nil ?_)))
        exact ⟨2 * root + 2, ⟨S, .inr rfl, by omega, fun d q1 q2 => by rcases q1 with rfl | rfl; exact W.asym hq; exact W.irr _⟩, ((by repeat (first | exact Ks.le_nil _ | refine Ks.le_cons rfl ?_)))⟩
      · all_goals (repeat' (first | refine k_cond rfl ?_ | refine K_skip ?_))
        exact ⟨2 * root + 1, ⟨S, .inl rfl, by omega, fun d q1 q2 => by rcases q1 with rfl | rfl; exact W.irr _; exact hq⟩, ((by repeat (first | exact Ks.le_nil _ | refine Ks.le_cons rfl ?_)))⟩
    · exact ⟨2 * root + 1, ⟨S, .inl rfl, by omega, fun d q1 q2 => by rcases q1 with rfl | rfl; exact W.irr _; omega⟩, ((by repeat (first | exact Ks.le_nil _ | refine Ks.le_cons rfl ?_)))⟩
  clear S
  rintro c h ⟨S, g1, g2, g3⟩
  skip
  all_goals (repeat' (first | refine K_seq ?_ | (refine K_draw (id := 5) ?_; refine mv ?_; refine mv ?_; refine mv ?_; refine ad ?_; refine ixS2 S rfl rfl ?_; refine lES2 S rfl rfl ?_; refine mv ?_; refine mv ?_; refine mv ?_; refine ad ?_; refine ixS2 S rfl rfl ?_; refine lES2 S rfl rfl ?_)))
  simp only [toNat_pred, toNat_succ, toNat_sum, Int.toNat_natCast]
  (refine KO_fn rfl rfl rfl rfl rfl ((less_ok S.wf _ _).mono ?_); rintro _ h ⟨⟨rfl, hq⟩ | ⟨rfl, hq⟩, x⟩) <;> (replace S := S.join0 x; clear x; refine vl ?_; refine KO_nil ?_)
  · all_goals (repeat' (first | refine K_seq ?_ | refine k_cond rfl ?_ | refine K_skip ?_ | (refine K_draw (id := 6) ?_; refine mv ?_; refine mv ?_; refine mv ?_; refine ad ?_; refine mv ?_; refine mv ?_; refine mv ?_; refine ad ?_; refine mv ?_; refine mv ?_; refine mv ?_; refine ad ?_; refine ixS2 S rfl rfl ?_; refine lES2 S rfl rfl ?_; refine mv ?_; refine mv ?_; refine mv ?_; refine ad ?_; refine ixS2 S rfl rfl ?_; refine lES2 S rfl rfl ?_; refine ixS2 S rfl rfl ?_; (first | (refine sE2 S rfl rfl ?_; clear S; intro h S)); refine ixS2 S rfl rfl ?_; (first | (refine sE2 S rfl rfl ?_; clear S; intro h S)); refine KO_nil ?_) | (refine K_region (id := 7) ?_; refine mv ?_; refine mv ?_; refine KO_nil ?_)))
    simp only [toNat_pred, toNat_succ, toNat_sum, Int.toNat_natCast] at S
    refine ⟨(c, swp m (f + root) (f + c)), ?_, ?_, (by repeat (first | exact Ks.le_nil _ | refine Ks.le_cons rfl ?_))⟩
    · show hi - c < hi - root; omega
    · exact ⟨S, ⟨by omega, by omega⟩, h2.step _ _ ⟨by omega, by omega⟩ ⟨by omega, by omega⟩ (by omega), fin c g1 g2 hq g3⟩
  · all_goals (repeat' (refine k_cond rfl ?_))
    refine K_ret ⟨_, rfl, ?_⟩
    exact ⟨m, h2, stop c g1 g2 hq g3, S⟩

theorem heap_o {h0 h : AH} {rs : List Rs} {v : Value} {l : List (List UInt8)} (a b : Nat) (S : Hs h0 h (.sl v 9 1 eS l :: rs)) (hab : a < b) (hb : b ≤ l.length) (hl : l.length ≤ 1000000) :
    Fn Tryz.prog Xh 153 [v, .int .i64 a, .int .i64 b] h (fun _ h' => ∃ l', Sw a b l l' ∧ Srt sLt a b l' ∧ Hs h0 h' (.sl v 9 1 eS l' :: rs)) := by
  have W : WOrd sLt := sLt_ord
  refine Fn_K rfl Tryz.func153 rfl rfl ?_
  all_goals (repeat' (first | refine K_seq ?_ | refine k_block ?_ | (refine K_region (id := 0) ?_; refine mv ?_; refine mv ?_; refine KO_nil ?_) | (refine K_region (id := 1) ?_; refine mv ?_; refine KO_nil ?_) | (refine K_region (id := 2) ?_; refine mv ?_; refine mv ?_; refine sb ?_; refine mv ?_; refine KO_nil ?_) | (refine K_region (id := 3) ?_; refine mv ?_; refine sb ?_; refine qu ?_; refine mv ?_; refine KO_nil ?_)))
  have e1 : ((b : Int) - (a : Int) - 1) / 2 = (((b - a - 1) / 2 : Nat) : Int) := by omega
  refine k_loop (σ := Nat × List (List UInt8)) (fun (i, m) h' => Hs h0 h' (.sl v 9 1 eS m :: rs) ∧ i ≤ b - a ∧ Sw a b l m ∧ Heap sLt a i (b - a) m) (fun (i, m) => i) (fun (i, m) => [(0, v), (1, .int .i64 a), (2, .int .i64 b), (6, .int .i64 a), (7, .int .i64 0), (8, .int .i64 (b - a : Nat)), (9, .int .i64 ((i : Int) - 1))]) ((b - a - 1) / 2 + 1, l) (by repeat (first | exact Ks.le_nil _ | refine Ks.le_cons rfl ?_ | refine Ks.le_int ?_)) ?_ ?_
  · exact ⟨S, by omega, .refl _, fun k hk => ⟨fun q => by omega, fun q => by omega⟩⟩
  clear S
  rintro ⟨i, m⟩ h ⟨S, h1, h2, h3⟩
  have hml := h2.len
  skip
  all_goals (repeat' (first | refine K_seq ?_ | refine k_cond rfl ?_ | refine K_skip ?_ | refine K_exit ?_ | refine k_block ?_ | (refine K_region (id := 4) ?_; refine mv ?_; (first | (refine cS ?_ ?_ <;> intro hc)) <;> (refine KO_nil ?_))))
  · have e2 : (i : Int) - 1 = ((i - 1 : Nat) : Int) := by omega
    have h4 : Heap sLt a (i - 1 + 1) (b - a) m := by rw [Nat.sub_add_cancel (by omega)]; exact h3
    refine K_region (id := 6) ?_
    (refine mv ?_; refine mv ?_; refine mv ?_; refine mv ?_; skip)
    simp only [e2]
    (refine KO_fn rfl rfl rfl rfl rfl ((sift_o (i - 1) (b - a) a S (by omega) (by omega) (by omega) h4).mono ?_); rintro _ h ⟨l2, g1, g2, S2⟩) <;> (replace S := S2; clear S2; refine KO_nil ?_)
    rw [show a + (b - a) = b by omega] at g1
    all_goals (repeat' (first | (refine K_region (id := 5) ?_; refine mv ?_; refine sb ?_; refine mv ?_; refine KO_nil ?_)))
    refine ⟨(i - 1, l2), ?_, ?_, (by repeat (first | exact Ks.le_nil _ | refine Ks.le_cons rfl ?_))⟩
    · show i - 1 < i; omega
    · exact ⟨S, by omega, h2.trans g1, g2⟩
  obtain rfl : i = 0 := by omega
  all_goals (repeat' (first | refine k_block ?_ | (refine K_region (id := 7) ?_; refine mv ?_; refine sb ?_; refine mv ?_; refine KO_nil ?_)))
  refine k_loop (σ := Nat × List (List UInt8)) (fun (i, m) h' => Hs h0 h' (.sl v 9 1 eS m :: rs) ∧ i ≤ b - a ∧ Sw a b l m ∧ HeapI sLt a i (b - a) m) (fun (i, m) => i) (fun (i, m) => [(0, v), (1, .int .i64 a), (2, .int .i64 b), (6, .int .i64 a), (7, .int .i64 0), (8, .int .i64 (b - a : Nat)), (10, .int .i64 ((i : Int) - 1))]) (b - a, m) (by repeat (first | exact Ks.le_nil _ | refine Ks.le_cons rfl ?_)) ?_ ?_
  · exact ⟨S, Nat.le_refl _, h2, h3, fun p q q1 q2 q3 => by omega⟩
  clear S h1 h2 h3 hml
  rintro ⟨i, m⟩ h ⟨S, h1, h2, h3⟩
  have hml := h2.len
  skip
  all_goals (repeat' (first | refine K_seq ?_ | refine k_cond rfl ?_ | refine K_skip ?_ | refine K_exit ?_ | refine k_block ?_ | (refine K_region (id := 8) ?_; refine mv ?_; (first | (refine cS ?_ ?_ <;> intro hc)) <;> (refine KO_nil ?_))))
  · have e2 : (i : Int) - 1 = ((i - 1 : Nat) : Int) := by omega
    obtain ⟨k, rfl⟩ : ∃ k, i = k + 1 := ⟨i - 1, by omega⟩
    all_goals (repeat' (first | (refine K_draw (id := 10) ?_; refine mv ?_; refine mv ?_; refine mv ?_; refine mv ?_; refine mv ?_; refine ad ?_; refine mv ?_; refine mv ?_; refine mv ?_; refine ad ?_; refine ixS2 S rfl rfl ?_; refine lES2 S rfl rfl ?_; refine mv ?_; refine mv ?_; refine ixS2 S rfl rfl ?_; refine lES2 S rfl rfl ?_; refine ixS2 S rfl rfl ?_; (first | (refine sE2 S rfl rfl ?_; clear S; intro h S)); refine ixS2 S rfl rfl ?_; (first | (refine sE2 S rfl rfl ?_; clear S; intro h S)); refine KO_nil ?_)))
    refine K_region (id := 11) ?_
    (refine mv ?_; refine mv ?_; refine mv ?_; refine mv ?_; skip)
    simp only [Nat.add_sub_cancel] at e2
    simp only [e2, toNat_sum, Int.toNat_natCast] at S ⊢
    replace S : Hs h0 h (.sl v 9 1 eS (swp m a (a + k)) :: rs) := S
    have s1 : Sw a b l (swp m a (a + k)) := h2.step _ _ ⟨by omega, by omega⟩ ⟨by omega, by omega⟩ (by omega)
    have hsl := s1.len
    skip
    (refine KO_fn rfl rfl rfl rfl rfl ((sift_o 0 k a S (by omega) (by omega) (by omega) (h3.1.pop (by omega))).mono ?_); rintro _ h ⟨l2, g1, g2, S2⟩) <;> (replace S := S2; clear S2; refine KO_nil ?_)
    all_goals (repeat' (first | (refine K_region (id := 9) ?_; refine mv ?_; refine sb ?_; refine mv ?_; refine KO_nil ?_)))
    refine ⟨(k, l2), ?_, ?_, (by repeat (first | exact Ks.le_nil _ | refine Ks.le_cons rfl ?_))⟩
    · show k < k + 1; omega
    · exact ⟨S, by omega, s1.trans (g1.mono (Nat.le_refl _) (by omega) (by omega)), h3.pop W (by omega) (by omega) g1 g2⟩
  obtain rfl : i = 0 := by omega
  refine ⟨_, rfl, ?_⟩
  exact ⟨m, h2, h3.done (by omega), S⟩

theorem rev_o {h0 h : AH} {rs : List Rs} {v : Value} {l : List (List UInt8)} (a b : Nat) (S : Hs h0 h (.sl v 9 1 eS l :: rs)) (hab : a < b) (hb : b ≤ l.length) (hl : l.length ≤ 1000000) :
    Fn Tryz.prog Xh 156 [v, .int .i64 a, .int .i64 b] h (fun _ h' => ∃ l', Sw a b l l' ∧ Hs h0 h' (.sl v 9 1 eS l' :: rs)) := by
  have W : WOrd sLt := sLt_ord
  refine Fn_K rfl Tryz.func156 rfl rfl ?_
  all_goals (repeat' (first | refine K_seq ?_ | refine k_block ?_ | (refine K_region (id := 0) ?_; refine mv ?_; refine mv ?_; refine KO_nil ?_) | (refine K_region (id := 1) ?_; refine mv ?_; refine sb ?_; refine mv ?_; refine KO_nil ?_)))
  refine k_loop (σ := Nat × Nat × List (List UInt8)) (fun (i, j, m) h' => Hs h0 h' (.sl v 9 1 eS m :: rs) ∧ a ≤ i ∧ j < b ∧ Sw a b l m) (fun (i, j, m) => j - i) (fun (i, j, m) => [(0, v), (1, .int .i64 a), (2, .int .i64 b), (6, .int .i64 i), (7, .int .i64 j)]) (a, b - 1, l) (by repeat (first | exact Ks.le_nil _ | refine Ks.le_cons rfl ?_ | refine Ks.le_int ?_)) ?_ ?_
  · exact ⟨S, Nat.le_refl _, by omega, .refl _⟩
  clear S
  rintro ⟨i, j, m⟩ h ⟨S, h1, h2, h3⟩
  have hml := h3.len
  all_goals (repeat' (first | refine K_seq ?_ | refine k_cond rfl ?_ | refine K_skip ?_ | refine K_exit ?_ | refine k_block ?_ | (refine K_region (id := 2) ?_; refine mv ?_; refine mv ?_; (first | (refine cS ?_ ?_ <;> intro hc)) <;> (refine KO_nil ?_)) | (refine K_draw (id := 3) ?_; refine mv ?_; refine mv ?_; refine mv ?_; refine mv ?_; refine mv ?_; refine mv ?_; refine ixS2 S rfl rfl ?_; refine lES2 S rfl rfl ?_; refine mv ?_; refine mv ?_; refine ixS2 S rfl rfl ?_; refine lES2 S rfl rfl ?_; refine ixS2 S rfl rfl ?_; (first | (refine sE2 S rfl rfl ?_; clear S; intro h S)); refine ixS2 S rfl rfl ?_; (first | (refine sE2 S rfl rfl ?_; clear S; intro h S)); refine KO_nil ?_) | (refine K_region (id := 4) ?_; refine mv ?_; refine ad ?_; refine mv ?_; refine KO_nil ?_) | (refine K_region (id := 5) ?_; refine mv ?_; refine sb ?_; refine mv ?_; refine KO_nil ?_)))
  · (try simp only [toNat_pred, toNat_succ, toNat_sum, Int.toNat_natCast] at S)
    refine ⟨(i + 1, j - 1, swp m i j), ?_, ?_, (by repeat (first | exact Ks.le_nil _ | refine Ks.le_cons rfl ?_ | refine Ks.le_int ?_))⟩
    · show j - 1 - (i + 1) < j - i; omega
    · exact ⟨S, by omega, by omega, h3.step _ _ ⟨by omega, by omega⟩ ⟨by omega, by omega⟩ (by omega)⟩
  · refine ⟨_, rfl, ?_⟩
    exact ⟨m, h3, S⟩

theorem ord2_o {h0 h : AH} {rs : List Rs} {v : Value} {l : List (List UInt8)} {bs : Nat} {s : Int} (x y : Nat) (S : Hs h0 h (.blk bs [.int .i64 s] 3 :: .sl v 9 1 eS l :: rs)) (hx : x < l.length) (hy : y < l.length) (hl : l.length ≤ 1000000) (hs : 0 ≤ s ∧ s ≤ 100) :
    Fn Tryz.prog Xh 213 [v, .int .i64 x, .int .i64 y, .pointer (some ⟨bs, 0, none⟩)] h (fun r h' => ∃ (p q : Nat) (s' : Int), r = .tuple #[.int .i64 p, .int .i64 q] ∧ ((p = x ∧ q = y) ∨ (p = y ∧ q = x)) ∧ (0 ≤ s' ∧ s' ≤ s + 1) ∧ Hs h0 h' (.blk bs [.int .i64 s'] 3 :: .sl v 9 1 eS l :: rs)) := by
  have W : WOrd sLt := sLt_ord
  refine Fn_K rfl Tryz.func213 rfl rfl ?_
  all_goals (repeat' (first | refine K_seq ?_ | (refine K_region (id := 0) ?_; refine mv ?_; refine mv ?_; refine KO_nil ?_) | (refine K_draw (id := 1) ?_; refine mv ?_; refine mv ?_; refine ixS2 S rfl rfl ?_; refine lES2 S rfl rfl ?_; refine mv ?_; refine mv ?_; refine ixS2 S rfl rfl ?_; refine lES2 S rfl rfl ?_)))
  (try simp only [toNat_pred, toNat_succ, toNat_sum, Int.toNat_natCast])
  (refine KO_fn rfl rfl rfl rfl rfl ((less_ok S.wf _ _).mono ?_); rintro _ h ⟨⟨rfl, hq⟩ | ⟨rfl, hq⟩, x⟩) <;> (replace S := S.join0 x; clear x; refine KO_nil ?_)
  · all_goals (repeat' (first | refine K_seq ?_ | refine k_cond rfl ?_ | (refine K_region (id := 2) ?_; refine mv ?_; refine vl ?_; refine lB S rfl rfl ?_; refine ad ?_; refine vl ?_; (first | (refine sB S rfl rfl ?_; clear S; intro h S)); refine KO_nil ?_) | (refine K_region (id := 3) ?_; refine mv ?_; refine mv ?_; refine mv ?_; refine mv ?_; refine KO_nil ?_)))
    refine K_ret ⟨_, rfl, ?_⟩
    exact ⟨y, x, s + 1, rfl, .inr ⟨rfl, rfl⟩, by omega, S⟩
  · all_goals (repeat' (first | refine K_seq ?_ | refine k_cond rfl ?_ | refine K_skip ?_ | (refine K_region (id := 4) ?_; refine mv ?_; refine mv ?_; refine mv ?_; refine mv ?_; refine KO_nil ?_)))
    refine K_ret ⟨_, rfl, ?_⟩
    exact ⟨x, y, s, rfl, .inl ⟨rfl, rfl⟩, by omega, S⟩

theorem med_o {h0 h : AH} {rs : List Rs} {v : Value} {l : List (List UInt8)} {bs : Nat} {s : Int} (x y z : Nat) (S : Hs h0 h (.blk bs [.int .i64 s] 3 :: .sl v 9 1 eS l :: rs)) (hx : x < l.length) (hy : y < l.length) (hz : z < l.length) (hl : l.length ≤ 1000000) (hs : 0 ≤ s ∧ s ≤ 90) :
    Fn Tryz.prog Xh 192 [v, .int .i64 x, .int .i64 y, .int .i64 z, .pointer (some ⟨bs, 0, none⟩)] h (fun r h' => ∃ (p : Nat) (s' : Int), r = .int .i64 p ∧ (p = x ∨ p = y ∨ p = z) ∧ (0 ≤ s' ∧ s' ≤ s + 3) ∧ Hs h0 h' (.blk bs [.int .i64 s'] 3 :: .sl v 9 1 eS l :: rs)) := by
  have W : WOrd sLt := sLt_ord
  refine Fn_K rfl Tryz.func192 rfl rfl ?_
  all_goals (repeat' (first | refine K_seq ?_ | (refine K_region (id := 0) ?_; refine mv ?_; refine KO_nil ?_) | (refine K_region (id := 1) ?_; refine mv ?_; refine mv ?_; refine mv ?_; refine mv ?_; skip)))
  (refine KO_fn rfl rfl rfl rfl rfl ((ord2_o x y S hx hy hl (by omega)).mono ?_); rintro _ h ⟨p1, q1, s1, rfl, e1, e2, S2⟩) <;> (replace S := S2; clear S2; refine mv ?_; refine vl ?_; refine vl ?_; refine mv ?_; refine mv ?_; refine KO_nil ?_)
  all_goals (repeat' (first | refine K_seq ?_ | (refine K_region (id := 2) ?_; refine mv ?_; refine mv ?_; refine mv ?_; refine mv ?_; skip)))
  have b1 : p1 < l.length ∧ q1 < l.length := by omega
  (refine KO_fn rfl rfl rfl rfl rfl ((ord2_o q1 z S b1.2 hz hl (by omega)).mono ?_); rintro _ h ⟨p2, q2, s2, rfl, e3, e4, S2⟩) <;> (replace S := S2; clear S2; refine mv ?_; refine vl ?_; refine vl ?_; refine mv ?_; refine mv ?_; refine KO_nil ?_)
  all_goals (repeat' (first | refine K_seq ?_ | (refine K_region (id := 3) ?_; refine mv ?_; refine mv ?_; refine mv ?_; refine mv ?_; skip)))
  have b2 : p2 < l.length := by omega
  (refine KO_fn rfl rfl rfl rfl rfl ((ord2_o p1 p2 S b1.1 b2 hl (by omega)).mono ?_); rintro _ h ⟨p3, q3, s3, rfl, e5, e6, S2⟩) <;> (replace S := S2; clear S2; refine mv ?_; refine vl ?_; refine vl ?_; refine mv ?_; refine mv ?_; refine KO_nil ?_)
  all_goals (repeat' (first | refine K_seq ?_ | (refine K_region (id := 4) ?_; refine mv ?_; refine mv ?_; refine KO_nil ?_)))
  refine K_ret ⟨_, rfl, ?_⟩
  exact ⟨q3, s3, rfl, by omega, by omega, S⟩

theorem medA_o {h0 h : AH} {rs : List Rs} {v : Value} {l : List (List UInt8)} {bs : Nat} {s : Int} (x : Nat) (S : Hs h0 h (.blk bs [.int .i64 s] 3 :: .sl v 9 1 eS l :: rs)) (hx : 0 < x ∧ x + 1 < l.length) (hl : l.length ≤ 1000000) (hs : 0 ≤ s ∧ s ≤ 90) :
    Fn Tryz.prog Xh 191 [v, .int .i64 x, .pointer (some ⟨bs, 0, none⟩)] h (fun r h' => ∃ (p : Nat) (s' : Int), r = .int .i64 p ∧ (x - 1 ≤ p ∧ p ≤ x + 1) ∧ (0 ≤ s' ∧ s' ≤ s + 3) ∧ Hs h0 h' (.blk bs [.int .i64 s'] 3 :: .sl v 9 1 eS l :: rs)) := by
  have e1 : (x : Int) - 1 = ((x - 1 : Nat) : Int) := by omega
  have e2 : (x : Int) + 1 = ((x + 1 : Nat) : Int) := by omega
  refine Fn_K rfl Tryz.func191 rfl rfl ?_
  all_goals (repeat' (first | refine K_seq ?_ | (refine K_region (id := 0) ?_; refine mv ?_; refine KO_nil ?_) | (refine K_region (id := 1) ?_; refine mv ?_; refine mv ?_; refine sb ?_; refine mv ?_; refine mv ?_; refine ad ?_; refine mv ?_)))
  simp only [e1, e2]
  (refine KO_fn rfl rfl rfl rfl rfl ((med_o (x - 1) x (x + 1) S (by omega) (by omega) (by omega) hl (by omega)).mono ?_); rintro _ h ⟨q, s, rfl, g1, g2, S2⟩) <;> (replace S := S2; clear S2; refine mv ?_; refine KO_nil ?_)
  all_goals (repeat' (fail))
  refine K_ret ⟨_, rfl, ?_⟩
  exact ⟨q, s, rfl, by omega, by omega, S⟩
theorem piv_o {h0 h : AH} {rs : List Rs} {v : Value} {l : List (List UInt8)} (a b : Nat) (S : Hs h0 h (.sl v 9 1 eS l :: rs)) (hab : 12 < b - a ∧ b - a < 250) (hb : b ≤ l.length) (hl : l.length ≤ 1000000) :
    Fn Tryz.prog Xh 155 [v, .int .i64 a, .int .i64 b] h (fun r h' => ∃ (q : Nat) (t : Int), r = .tuple #[.int .i64 q, .int .i64 t] ∧ (a ≤ q ∧ q < b) ∧ Hs h0 h' (.sl v 9 1 eS l :: rs)) := by
  have W : WOrd sLt := sLt_ord
  refine Fn_K rfl Tryz.func155 rfl rfl ?_
  all_goals (repeat' (first | refine K_seq ?_ | refine k_cond rfl ?_ | (refine K_region (id := 0) ?_; refine mv ?_; refine mv ?_; refine KO_nil ?_) | (refine K_region (id := 1) ?_; refine mv ?_; refine mv ?_; refine sb ?_; refine mv ?_; refine KO_nil ?_) | (refine K_region (id := 2) ?_; (refine al S ?_; clear S; intro b h S); refine KO_nil ?_) | (refine K_region (id := 3) ?_; refine mv ?_; refine mv ?_; refine qu ?_; refine ml ?_; refine ad ?_; refine mv ?_; refine KO_nil ?_) | (refine K_region (id := 4) ?_; refine mv ?_; refine mv ?_; refine qu ?_; refine ml ?_; refine ad ?_; refine mv ?_; refine KO_nil ?_) | (refine K_region (id := 5) ?_; refine mv ?_; refine mv ?_; refine qu ?_; refine ml ?_; refine ad ?_; refine mv ?_; refine KO_nil ?_) | (refine K_region (id := 6) ?_; refine mv ?_; (refine cT ?_) <;> (refine KO_nil ?_))))
  obtain ⟨bs, hnm⟩ : ∃ x, x = b := ⟨_, rfl⟩; subst hnm
  have e1 : (a : Int) + ((b : Int) - (a : Int)) / 4 * 1 = ((a + (b - a) / 4 * 1 : Nat) : Int) := by omega
  have e2 : (a : Int) + ((b : Int) - (a : Int)) / 4 * 2 = ((a + (b - a) / 4 * 2 : Nat) : Int) := by omega
  have e3 : (a : Int) + ((b : Int) - (a : Int)) / 4 * 3 = ((a + (b - a) / 4 * 3 : Nat) : Int) := by omega
  simp only [e1, e2, e3]
  (repeat (refine K_seq ?_)); first | refine K_join (σ := Nat × Nat × Nat × Int) (fun (i, j, k, s) h' => Hs h0 h' (.blk bs [.int .i64 s] 3 :: .sl v 9 1 eS l :: rs) ∧ (a ≤ i ∧ i < b) ∧ (a ≤ j ∧ j < b) ∧ (a ≤ k ∧ k < b) ∧ 0 ≤ s ∧ s ≤ 9) (fun (i, j, k, s) => [(0, v), (9, .pointer (some ⟨bs, 0, none⟩)), (10, .int .i64 i), (11, .int .i64 j), (12, .int .i64 k)]) ?_ ?_
  · all_goals (repeat' (first | refine K_seq ?_ | refine k_cond rfl ?_ | refine K_skip ?_ | (refine K_region (id := 7) ?_; refine mv ?_; (first | (refine cS ?_ ?_ <;> intro hc)) <;> (refine KO_nil ?_)) | (refine K_region (id := 8) ?_; refine mv ?_; refine mv ?_)))
    · (refine KO_fn rfl rfl rfl rfl rfl ((medA_o (a + (b - a) / 4 * 1) S (by omega) hl (by omega)).mono ?_); rintro _ h ⟨q, s, rfl, g1, g2, S2⟩) <;> (replace S := S2; clear S2; refine mv ?_; refine KO_nil ?_)
      all_goals (repeat' (first | refine K_seq ?_ | (refine K_region (id := 9) ?_; refine mv ?_; refine mv ?_)))
      (refine KO_fn rfl rfl rfl rfl rfl ((medA_o (a + (b - a) / 4 * 2) S (by omega) hl (by omega)).mono ?_); rintro _ h ⟨q2, s2, rfl, g3, g4, S2⟩) <;> (replace S := S2; clear S2; refine mv ?_; refine KO_nil ?_)
      all_goals (repeat' (first | (refine K_region (id := 10) ?_; refine mv ?_; refine mv ?_)))
      (refine KO_fn rfl rfl rfl rfl rfl ((medA_o (a + (b - a) / 4 * 3) S (by omega) hl (by omega)).mono ?_); rintro _ h ⟨q3, s3, rfl, g5, g6, S2⟩) <;> (replace S := S2; clear S2; refine mv ?_; refine KO_nil ?_)
      all_goals (repeat' (fail))
      exact ⟨(q, q2, q3, s3), ⟨S, by (try dsimp only); omega, by (try dsimp only); omega, by (try dsimp only); omega, by (try dsimp only); omega, by (try dsimp only); omega⟩, ((by repeat (first | exact Ks.le_nil _ | refine Ks.le_cons rfl ?_)))⟩
    · exact ⟨(a + (b - a) / 4 * 1, a + (b - a) / 4 * 2, a + (b - a) / 4 * 3, 0), ⟨S, by (try dsimp only); omega, by (try dsimp only); omega, by (try dsimp only); omega, by (try dsimp only); omega, by (try dsimp only); omega⟩, ((by repeat (first | exact Ks.le_nil _ | refine Ks.le_cons rfl ?_)))⟩
  clear S
  rintro ⟨i, j, k, s⟩ h ⟨S, k1, k2, k3, k4⟩
  skip
  all_goals (repeat' (first | (refine K_region (id := 11) ?_; refine mv ?_; refine mv ?_; refine mv ?_; refine mv ?_; skip)))
  (refine KO_fn rfl rfl rfl rfl rfl ((med_o i j k S (by omega) (by omega) (by omega) hl (by omega)).mono ?_); rintro _ h ⟨q, s, rfl, g1, g2, S2⟩) <;> (replace S := S2; clear S2; refine mv ?_; refine KO_nil ?_)
  all_goals (repeat' (first | refine K_seq ?_ | refine k_cond rfl ?_ | refine k_block ?_ | (refine K_region (id := 12) ?_; refine lB S rfl rfl ?_; refine KO_nil ?_) | (refine K_region (id := 13) ?_; refine mv ?_; refine mv ?_; refine mv ?_; refine KO_nil ?_) | (refine K_region (id := 14) ?_; (first | (refine cS ?_ ?_ <;> intro hc)) <;> (refine mv ?_; refine KO_nil ?_)) | (refine K_region (id := 15) ?_; refine mv ?_; refine mv ?_; refine mv ?_; refine KO_nil ?_) | (refine K_region (id := 16) ?_; (first | (refine cS ?_ ?_ <;> intro hc)) <;> (refine mv ?_; refine KO_nil ?_)) | (refine K_region (id := 17) ?_; refine mv ?_; refine mv ?_; refine mv ?_; refine KO_nil ?_)))
  all_goals (refine K_ret ⟨_, rfl, ?_⟩)
  all_goals exact ⟨q, _, rfl, by omega, S.tail⟩

theorem brk_o {h0 h : AH} {rs : List Rs} {v : Value} {l : List (List UInt8)} (a b : Nat) (S : Hs h0 h (.sl v 9 1 eS l :: rs)) (hab : 12 < b - a ∧ b - a < 250) (hb : b ≤ l.length) (hl : l.length ≤ 1000000) :
    Fn Tryz.prog Xh 154 [v, .int .i64 a, .int .i64 b] h (fun _ h' => ∃ l', Sw a b l l' ∧ Hs h0 h' (.sl v 9 1 eS l' :: rs)) := by
  have W : WOrd sLt := sLt_ord
  have e1 : (b : Int) - (a : Int) = ((b - a : Nat) : Int) := by omega
  refine Fn_K rfl Tryz.func154 rfl rfl ?_
  all_goals (repeat' (first | refine K_seq ?_ | refine k_cond rfl ?_ | (refine K_region (id := 0) ?_; refine mv ?_; refine mv ?_; refine sb ?_; refine mv ?_; refine KO_nil ?_) | (refine K_region (id := 1) ?_; refine mv ?_; (refine cT ?_) <;> (refine KO_nil ?_)) | (refine K_region (id := 2) ?_; refine mv ?_; refine cW ?_; (refine al S ?_; clear S; intro b h S); (first | (refine sB S rfl rfl ?_; clear S; intro h S)); refine KO_nil ?_) | (refine K_region (id := 3) ?_; refine mv ?_)))
  obtain ⟨bs, hnm⟩ : ∃ x, x = b := ⟨_, rfl⟩; subst hnm
  simp only [e1]
  (refine KO_fn rfl rfl rfl rfl rfl ((npot_ok S.wf (b - a) (by omega)).mono ?_); rintro _ h ⟨P, rfl, hP1, hP2, x⟩) <;> (replace S := S.join0 x; clear x; refine mv ?_; refine KO_nil ?_)
  all_goals (repeat' (first | refine K_seq ?_ | refine k_block ?_ | (refine K_region (id := 4) ?_; refine mv ?_; refine mv ?_; refine qu ?_; refine ml ?_; refine ad ?_; refine sb ?_; refine mv ?_; refine KO_nil ?_)))
  obtain ⟨w0, hw0⟩ : ∃ w0 : Int, w0 = (b : Int) - (a : Int) := ⟨_, rfl⟩
  refine k_loop (σ := Nat × Int × List (List UInt8)) (fun (i, z, m) h' => Hs h0 h' (.blk bs [.int .u64 z] 217 :: .sl v 9 1 eS m :: rs) ∧ (0 ≤ z ∧ z ≤ 18446744073709551615) ∧ a + (b - a) / 4 * 2 - 1 ≤ i ∧ i ≤ a + (b - a) / 4 * 2 + 2 ∧ Sw a b l m) (fun (i, z, m) => a + (b - a) / 4 * 2 + 2 - i) (fun (i, z, m) => [(0, v), (1, .int .i64 a), (2, .int .i64 b), (6, .int .i64 (b - a : Nat)), (7, .pointer (some ⟨bs, 0, none⟩)), (8, .int .u64 P), (9, .int .i64 i)]) (a + (b - a) / 4 * 2 - 1, w0, l) (by repeat (first | exact Ks.le_nil _ | refine Ks.le_cons rfl ?_ | refine Ks.le_int ?_)) ?_ ?_
  · exact ⟨by rw [hw0]; exact S, by omega, by omega, by omega, .refl _⟩
  clear S
  rintro ⟨i, z, m⟩ h ⟨S, h1, h2, h3, h4⟩
  have hml := h4.len
  all_goals (repeat' (first | refine K_seq ?_ | refine k_cond rfl ?_ | refine K_skip ?_ | refine K_exit ?_ | refine k_block ?_ | (refine K_region (id := 5) ?_; refine mv ?_; refine mv ?_; refine mv ?_; refine qu ?_; refine ml ?_; refine ad ?_; refine ad ?_; (first | (refine cS ?_ ?_ <;> intro hc)) <;> (refine KO_nil ?_)) | (refine K_region (id := 7) ?_; skip)))
  · (refine KO_fn rfl rfl rfl rfl rfl ((xnext_ok S h1).mono ?_); rintro _ h ⟨y, rfl, hy, S2⟩) <;> (replace S := S2; clear S2; refine mv ?_; refine sW ?_; (refine aM ?_; intro r1 hr1 hr2); refine cI ?_; refine mv ?_; refine KO_nil ?_)
    obtain ⟨k, rfl⟩ := Int.eq_ofNat_of_zero_le hr1
    all_goals (repeat' (first | refine K_seq ?_ | refine k_cond rfl ?_ | refine K_skip ?_ | (refine K_region (id := 8) ?_; refine mv ?_; refine mv ?_; (first | (refine cS ?_ ?_ <;> intro hc)) <;> (refine KO_nil ?_)) | (refine K_region (id := 9) ?_; refine mv ?_; refine mv ?_; refine sb ?_; refine mv ?_; refine KO_nil ?_)))
    · have e5 : (k : Int) - ((b - a : Nat) : Int) = ((k - (b - a) : Nat) : Int) := by omega
      simp only [e5]
      skip
      all_goals (repeat' (first | (refine K_region (id := 6) ?_; refine mv ?_; refine ad ?_; refine mv ?_; refine KO_nil ?_) | (refine K_draw (id := 10) ?_; refine mv ?_; refine mv ?_; refine mv ?_; refine mv ?_; refine mv ?_; refine ad ?_; refine mv ?_; refine mv ?_; refine mv ?_; refine ad ?_; refine ixS2 S rfl rfl ?_; refine lES2 S rfl rfl ?_; refine mv ?_; refine mv ?_; refine ixS2 S rfl rfl ?_; refine lES2 S rfl rfl ?_; refine ixS2 S rfl rfl ?_; (first | (refine sE2 S rfl rfl ?_; clear S; intro h S)); refine ixS2 S rfl rfl ?_; (first | (refine sE2 S rfl rfl ?_; clear S; intro h S)); refine KO_nil ?_)))
      (try simp only [toNat_pred, toNat_succ, toNat_sum, Int.toNat_natCast] at S)
      refine ⟨(i + 1, y, swp m i (a + (k - (b - a)))), ?_, ?_, (by repeat (first | exact Ks.le_nil _ | refine Ks.le_cons rfl ?_))⟩
      · show a + (b - a) / 4 * 2 + 2 - (i + 1) < a + (b - a) / 4 * 2 + 2 - i; omega
      · exact ⟨S, hy, by omega, by omega, h4.step _ _ ⟨by omega, by omega⟩ ⟨by omega, by omega⟩ (by omega)⟩
    · skip
      all_goals (repeat' (first | (refine K_region (id := 6) ?_; refine mv ?_; refine ad ?_; refine mv ?_; refine KO_nil ?_) | (refine K_draw (id := 10) ?_; refine mv ?_; refine mv ?_; refine mv ?_; refine mv ?_; refine mv ?_; refine ad ?_; refine mv ?_; refine mv ?_; refine mv ?_; refine ad ?_; refine ixS2 S rfl rfl ?_; refine lES2 S rfl rfl ?_; refine mv ?_; refine mv ?_; refine ixS2 S rfl rfl ?_; refine lES2 S rfl rfl ?_; refine ixS2 S rfl rfl ?_; (first | (refine sE2 S rfl rfl ?_; clear S; intro h S)); refine ixS2 S rfl rfl ?_; (first | (refine sE2 S rfl rfl ?_; clear S; intro h S)); refine KO_nil ?_)))
      (try simp only [toNat_pred, toNat_succ, toNat_sum, Int.toNat_natCast] at S)
      refine ⟨(i + 1, y, swp m i (a + k)), ?_, ?_, (by repeat (first | exact Ks.le_nil _ | refine Ks.le_cons rfl ?_))⟩
      · show a + (b - a) / 4 * 2 + 2 - (i + 1) < a + (b - a) / 4 * 2 + 2 - i; omega
      · exact ⟨S, hy, by omega, by omega, h4.step _ _ ⟨by omega, by omega⟩ ⟨by omega, by omega⟩ (by omega)⟩
  · refine ⟨_, rfl, ?_⟩
    exact ⟨m, h4, S.tail⟩

theorem Srt.out {a i : Nat} {m n : List (List UInt8)} (h : Srt sLt a i m) (e : ∀ k, a ≤ k → k < i → n.getD k default = m.getD k default) : Srt sLt a i n := fun p q h1 h2 h3 => by
  rw [e p h1 (by omega), e q (by omega) h3]; exact h p q h1 h2 h3
theorem pins_o {h0 h : AH} {rs : List Rs} {v : Value} {l : List (List UInt8)} (a b : Nat) (S : Hs h0 h (.sl v 9 1 eS l :: rs)) (hab : 12 < b - a ∧ b - a < 250) (hb : b ≤ l.length) (hl : l.length ≤ 1000000) (hlow : 0 < a → ∀ k, a ≤ k → k < b → ¬ sLt (l.getD k default) (l.getD (a - 1) default)) :
    Fn Tryz.prog Xh 157 [v, .int .i64 a, .int .i64 b] h (fun r h' => ∃ l', Sw a b l l' ∧ ((r = .bool true ∧ Srt sLt a b l') ∨ r = .bool false) ∧ Hs h0 h' (.sl v 9 1 eS l' :: rs)) := by
  have W : WOrd sLt := sLt_ord
  have low : ∀ n, Sw a b l n → 0 < a → ¬ sLt (n.getD a default) (n.getD (a - 1) default) := fun n s q => by
    rw [s.out (k := a - 1) (.inl (by omega))]
    exact s.all (p := fun y => ¬ sLt y (l.getD (a - 1) default)) (hlow q) a (Nat.le_refl _) (by omega)
  refine Fn_K rfl Tryz.func157 rfl rfl ?_
  all_goals (repeat' (first | refine K_seq ?_ | refine k_block ?_ | (refine K_region (id := 0) ?_; refine mv ?_; refine KO_nil ?_) | (refine K_region (id := 1) ?_; refine mv ?_; refine ad ?_; refine mv ?_; refine KO_nil ?_) | (refine K_region (id := 2) ?_; refine mv ?_; refine KO_nil ?_)))
  refine k_loop (σ := Nat × Nat × List (List UInt8)) (fun (i, c, m) h' => Hs h0 h' (.sl v 9 1 eS m :: rs) ∧ (a < i ∧ i ≤ b) ∧ c ≤ 5 ∧ Sw a b l m ∧ Srt sLt a i m) (fun (i, c, m) => 5 - c) (fun (i, c, m) => [(0, v), (1, .int .i64 a), (2, .int .i64 b), (7, .int .i64 i), (8, .int .i64 c)]) (a + 1, 0, l) (by repeat (first | exact Ks.le_nil _ | refine Ks.le_cons rfl ?_)) ?_ ?_
  · exact ⟨S, by omega, by omega, .refl _, fun i j q1 q2 q3 => by omega⟩
  clear S
  rintro ⟨i, c, m⟩ h ⟨S, h1, hc5, s1, h3⟩
  have hml := s1.len
  skip
  all_goals (repeat' (first | refine K_seq ?_ | refine k_cond rfl ?_ | refine K_skip ?_ | refine K_exit ?_ | refine k_block ?_ | (refine K_region (id := 3) ?_; refine mv ?_; (first | (refine cS ?_ ?_ <;> intro hc)) <;> (refine KO_nil ?_)) | (refine K_region (id := 24) ?_; refine mv ?_; refine KO_nil ?_)))
  · refine k_loop (σ := Nat) (fun i h' => Hs h0 h' (.sl v 9 1 eS m :: rs) ∧ (a < i ∧ i ≤ b) ∧ Srt sLt a i m) (fun i => b - i) (fun i => [(0, v), (1, .int .i64 a), (2, .int .i64 b), (7, .int .i64 i), (8, .int .i64 c)]) i (by repeat (first | exact Ks.le_nil _ | refine Ks.le_cons rfl ?_)) ?_ ?_
    · exact ⟨S, by omega, h3⟩
    clear S h1 h3
    rintro i h ⟨S, h1, h3⟩
    all_goals (repeat' (first | refine K_seq ?_ | refine k_cond rfl ?_ | refine K_exit ?_ | (refine K_draw (id := 5) ?_; refine mv ?_; refine mv ?_; (first | (refine cS ?_ ?_ <;> intro hc)) <;> (refine mv ?_; (first | refine off ?_ | refine mv ?_); (first | refine off ?_ | refine mv ?_); (first | refine off ?_ | (refine ixS2 S rfl rfl ?_)); (first | refine off ?_ | (refine lES2 S rfl rfl ?_)); (first | refine off ?_ | refine mv ?_); (first | refine off ?_ | refine mv ?_); (first | refine off ?_ | (refine sb ?_)); (first | refine off ?_ | (refine ixS2 S rfl rfl ?_)); (first | refine off ?_ | (refine lES2 S rfl rfl ?_)); (first | (refine off ?_; refine off ?_; refine vl ?_; refine KO_nil ?_) | skip)))))
    · simp only [toNat_pred, toNat_succ, toNat_sum, Int.toNat_natCast]
      (refine KO_fn rfl rfl rfl rfl rfl ((less_ok S.wf _ _).mono ?_); rintro _ h ⟨⟨rfl, hq⟩ | ⟨rfl, hq⟩, x⟩) <;> (replace S := S.join0 x; clear x; refine vl ?_; refine vl ?_; refine KO_nil ?_)
      · all_goals (repeat' (first | refine K_seq ?_ | refine k_cond rfl ?_ | refine K_skip ?_ | refine K_exit ?_ | (refine K_region (id := 7) ?_; refine mv ?_; refine mv ?_; (refine cF ?_) <;> (refine KO_nil ?_)) | (refine K_region (id := 9) ?_; refine mv ?_; refine mv ?_; refine sb ?_; (first | (refine cS ?_ ?_ <;> intro hc)) <;> (refine KO_nil ?_)) | (refine K_region (id := 10) ?_; refine mv ?_; refine KO_nil ?_)))
        · refine K_ret ⟨_, rfl, ?_⟩
          exact ⟨m, s1, .inr rfl, S⟩
        · all_goals (repeat' (first | refine K_seq ?_ | (refine K_draw (id := 11) ?_; refine mv ?_; refine mv ?_; refine mv ?_; refine mv ?_; refine sb ?_; refine mv ?_; refine mv ?_; refine sb ?_; refine ixS2 S rfl rfl ?_; refine lES2 S rfl rfl ?_; refine mv ?_; refine mv ?_; refine ixS2 S rfl rfl ?_; refine lES2 S rfl rfl ?_; refine ixS2 S rfl rfl ?_; (first | (refine sE2 S rfl rfl ?_; clear S; intro h S)); refine ixS2 S rfl rfl ?_; (first | (refine sE2 S rfl rfl ?_; clear S; intro h S)); refine KO_nil ?_)))
          simp only [toNat_pred, toNat_succ, toNat_sum, Int.toNat_natCast] at S
          have s2 : Sw a b l (swp m i (i - 1)) := s1.step _ _ ⟨by omega, by omega⟩ ⟨by omega, by omega⟩ (by omega)
          have hm2 := s2.len
          have h4 : Srt sLt a (i - 1) (swp m i (i - 1)) := Srt.out (m := m) (fun p q z1 z2 z3 => h3 p q z1 z2 (by omega)) fun k z1 z2 => by rw [swp_get (by omega) (by omega), if_neg (by omega), if_neg (by omega)]
          replace S : Hs h0 h (.sl v 9 1 eS (swp m i (i - 1)) :: rs) := S
          generalize swp m i (i - 1) = m2 at S s2 h4 hm2
          (repeat (refine K_seq ?_)); first | refine K_join (σ := List (List UInt8)) (fun m h' => Hs h0 h' (.sl v 9 1 eS m :: rs) ∧ Sw a b l m ∧ Srt sLt a i m) (fun m => [(0, v), (1, .int .i64 a), (2, .int .i64 b), (7, .int .i64 i), (8, .int .i64 c)]) ?_ ?_
          · all_goals (repeat' (first | refine K_seq ?_ | refine k_cond rfl ?_ | refine K_skip ?_ | refine k_block ?_ | (refine K_region (id := 12) ?_; refine mv ?_; refine mv ?_; refine sb ?_; (first | (refine cS ?_ ?_ <;> intro hc)) <;> (refine KO_nil ?_)) | (refine K_region (id := 13) ?_; refine mv ?_; refine sb ?_; refine mv ?_; refine KO_nil ?_)))
            · refine k_loop (σ := Nat × List (List UInt8)) (fun (j, n) h' => Hs h0 h' (.sl v 9 1 eS n :: rs) ∧ (a ≤ j ∧ j ≤ i - 1) ∧ Sw a b l n ∧ InsI sLt a (i - 1) j n) (fun (j, n) => j) (fun (j, n) => [(0, v), (1, .int .i64 a), (2, .int .i64 b), (7, .int .i64 i), (8, .int .i64 c), (9, .int .i64 j)]) (i - 1, m2) (by repeat (first | exact Ks.le_nil _ | refine Ks.le_cons rfl ?_ | refine Ks.le_int ?_)) ?_ ?_
              · exact ⟨S, by (try dsimp only); omega, s2, InsI.start h4⟩
              clear S s2 h4 hm2
              rintro ⟨j, n⟩ h ⟨S, k1, k2, k3⟩
              have hnl := k2.len
              skip
              all_goals (repeat' (first | refine K_seq ?_ | refine k_cond rfl ?_ | refine K_skip ?_ | refine K_exit ?_ | refine k_block ?_ | (refine K_region (id := 14) ?_; refine mv ?_; (first | (refine cS ?_ ?_ <;> intro hc)) <;> (refine KO_nil ?_)) | (refine K_draw (id := 16) ?_; refine mv ?_; refine mv ?_; refine ixS2 S rfl rfl ?_; refine lES2 S rfl rfl ?_; refine mv ?_; refine mv ?_; refine sb ?_; refine ixS2 S rfl rfl ?_; refine lES2 S rfl rfl ?_)))
              · simp only [toNat_pred, toNat_succ, toNat_sum, Int.toNat_natCast]
                (refine KO_fn rfl rfl rfl rfl rfl ((less_ok S.wf _ _).mono ?_); rintro _ h ⟨⟨rfl, hq2⟩ | ⟨rfl, hq2⟩, x⟩) <;> (replace S := S.join0 x; clear x; refine vl ?_; refine KO_nil ?_)
                · have hja : a < j := by
                    rcases Nat.lt_or_ge a j with z | z
                    · exact z
                    · obtain rfl : j = a := by omega
                      exact absurd hq2 (low n k2 (by omega))
                  all_goals (repeat' (first | refine k_cond rfl ?_ | refine K_skip ?_ | (refine K_region (id := 15) ?_; refine mv ?_; refine sb ?_; refine mv ?_; refine KO_nil ?_) | (refine K_draw (id := 17) ?_; refine mv ?_; refine mv ?_; refine mv ?_; refine mv ?_; refine sb ?_; refine mv ?_; refine mv ?_; refine sb ?_; refine ixS2 S rfl rfl ?_; refine lES2 S rfl rfl ?_; refine mv ?_; refine mv ?_; refine ixS2 S rfl rfl ?_; refine lES2 S rfl rfl ?_; refine ixS2 S rfl rfl ?_; (first | (refine sE2 S rfl rfl ?_; clear S; intro h S)); refine ixS2 S rfl rfl ?_; (first | (refine sE2 S rfl rfl ?_; clear S; intro h S)); refine KO_nil ?_)))
                  simp only [toNat_pred, toNat_succ, toNat_sum, Int.toNat_natCast] at S
                  refine ⟨(j - 1, swp n j (j - 1)), ?_, ?_, (by repeat (first | exact Ks.le_nil _ | refine Ks.le_cons rfl ?_ | refine Ks.le_int ?_))⟩
                  · show j - 1 < j; omega
                  · exact ⟨S, by (try dsimp only); omega, k2.step _ _ ⟨by omega, by omega⟩ ⟨by omega, by omega⟩ (by omega), k3.next W hja k1.2 (by omega) hq2⟩
                · all_goals (repeat' (first | refine k_cond rfl ?_ | refine K_exit ?_))
                  exact ⟨n, ⟨S, k2, by have := k3.done W (.inr hq2); rwa [show i - 1 + 1 = i by omega] at this⟩, ((by repeat (first | exact Ks.le_nil _ | refine Ks.le_cons rfl ?_)))⟩
              · exact ⟨n, ⟨S, k2, by have := k3.done W (.inl (by omega)); rwa [show i - 1 + 1 = i by omega] at this⟩, ((by repeat (first | exact Ks.le_nil _ | refine Ks.le_cons rfl ?_)))⟩
            · exact ⟨m2, ⟨S, s2, fun p q z1 z2 z3 => by omega⟩, ((by repeat (first | exact Ks.le_nil _ | refine Ks.le_cons rfl ?_)))⟩
          clear S s2 h4 hm2 m2
          rintro m2 h ⟨S, s2, h4⟩
          have hm2 := s2.len
          skip
          skip
          all_goals (repeat' (first | refine K_seq ?_ | refine k_cond rfl ?_ | refine K_skip ?_ | refine k_block ?_ | (refine K_region (id := 4) ?_; refine mv ?_; refine ad ?_; refine mv ?_; refine KO_nil ?_) | (refine K_region (id := 18) ?_; refine mv ?_; refine mv ?_; refine sb ?_; (first | (refine cS ?_ ?_ <;> intro hc)) <;> (refine KO_nil ?_)) | (refine K_region (id := 19) ?_; refine mv ?_; refine ad ?_; refine mv ?_; refine KO_nil ?_)))
          · refine k_loop (σ := Nat × List (List UInt8)) (fun (j, n) h' => Hs h0 h' (.sl v 9 1 eS n :: rs) ∧ (i < j ∧ j ≤ b) ∧ Sw a b l n ∧ Srt sLt a i n) (fun (j, n) => b - j) (fun (j, n) => [(0, v), (1, .int .i64 a), (2, .int .i64 b), (7, .int .i64 i), (8, .int .i64 c), (10, .int .i64 j)]) (i + 1, m2) (by repeat (first | exact Ks.le_nil _ | refine Ks.le_cons rfl ?_)) ?_ ?_
            · exact ⟨S, by (try dsimp only); omega, s2, h4⟩
            clear S s2 h4 hm2
            rintro ⟨j, n⟩ h ⟨S, k1, k2, k3⟩
            have hnl := k2.len
            skip
            all_goals (repeat' (first | refine K_seq ?_ | refine k_cond rfl ?_ | refine K_skip ?_ | refine K_exit ?_ | refine k_block ?_ | (refine K_region (id := 20) ?_; refine mv ?_; refine mv ?_; (first | (refine cS ?_ ?_ <;> intro hc)) <;> (refine KO_nil ?_)) | (refine K_draw (id := 22) ?_; refine mv ?_; refine mv ?_; refine ixS2 S rfl rfl ?_; refine lES2 S rfl rfl ?_; refine mv ?_; refine mv ?_; refine sb ?_; refine ixS2 S rfl rfl ?_; refine lES2 S rfl rfl ?_)))
            · simp only [toNat_pred, toNat_succ, toNat_sum, Int.toNat_natCast]
              (refine KO_fn rfl rfl rfl rfl rfl ((less_ok S.wf _ _).mono ?_); rintro _ h ⟨⟨rfl, hq2⟩ | ⟨rfl, hq2⟩, x⟩) <;> (replace S := S.join0 x; clear x; refine vl ?_; refine KO_nil ?_)
              · all_goals (repeat' (first | refine k_cond rfl ?_ | refine K_skip ?_ | (refine K_region (id := 21) ?_; refine mv ?_; refine ad ?_; refine mv ?_; refine KO_nil ?_) | (refine K_draw (id := 23) ?_; refine mv ?_; refine mv ?_; refine mv ?_; refine mv ?_; refine sb ?_; refine mv ?_; refine mv ?_; refine sb ?_; refine ixS2 S rfl rfl ?_; refine lES2 S rfl rfl ?_; refine mv ?_; refine mv ?_; refine ixS2 S rfl rfl ?_; refine lES2 S rfl rfl ?_; refine ixS2 S rfl rfl ?_; (first | (refine sE2 S rfl rfl ?_; clear S; intro h S)); refine ixS2 S rfl rfl ?_; (first | (refine sE2 S rfl rfl ?_; clear S; intro h S)); refine KO_nil ?_)))
                simp only [toNat_pred, toNat_succ, toNat_sum, Int.toNat_natCast] at S
                refine ⟨(j + 1, swp n j (j - 1)), ?_, ?_, (by repeat (first | exact Ks.le_nil _ | refine Ks.le_cons rfl ?_))⟩
                · show b - (j + 1) < b - j; omega
                · refine ⟨S, by (try dsimp only); omega, k2.step _ _ ⟨by omega, by omega⟩ ⟨by omega, by omega⟩ (by omega), k3.out fun k z1 z2 => ?_⟩
                  rw [swp_get (by omega) (by omega), if_neg (by omega), if_neg (by omega)]
              · all_goals (repeat' (first | refine k_cond rfl ?_ | refine K_exit ?_ | (refine K_region (id := 4) ?_; refine mv ?_; refine ad ?_; refine mv ?_; refine KO_nil ?_)))
                refine ⟨(i, c + 1, n), ?_, ?_, (by repeat (first | exact Ks.le_nil _ | refine Ks.le_cons rfl ?_))⟩
                · show 5 - (c + 1) < 5 - c; omega
                · exact ⟨S, h1, by (try dsimp only); omega, k2, k3⟩
            · all_goals (repeat' (first | (refine K_region (id := 4) ?_; refine mv ?_; refine ad ?_; refine mv ?_; refine KO_nil ?_)))
              refine ⟨(i, c + 1, n), ?_, ?_, (by repeat (first | exact Ks.le_nil _ | refine Ks.le_cons rfl ?_))⟩
              · show 5 - (c + 1) < 5 - c; omega
              · exact ⟨S, h1, by (try dsimp only); omega, k2, k3⟩
          · refine ⟨(i, c + 1, m2), ?_, ?_, (by repeat (first | exact Ks.le_nil _ | refine Ks.le_cons rfl ?_))⟩
            · show 5 - (c + 1) < 5 - c; omega
            · exact ⟨S, h1, by (try dsimp only); omega, s2, h4⟩
      · all_goals (repeat' (first | refine k_cond rfl ?_ | refine K_skip ?_ | refine k_block ?_ | (refine K_region (id := 6) ?_; refine mv ?_; refine ad ?_; refine mv ?_; refine KO_nil ?_)))
        refine ⟨i + 1, ?_, ?_, (by repeat (first | exact Ks.le_nil _ | refine Ks.le_cons rfl ?_))⟩
        · show b - (i + 1) < b - i; omega
        · refine ⟨S, by omega, Srt.adj W fun k q1 q2 => ?_⟩
          rcases Nat.lt_or_ge (k + 1) i with q | q
          · exact h3 k (k + 1) q1 (by omega) q
          · obtain rfl : i = k + 1 := by omega
            exact hq
    · obtain rfl : i = b := by omega
      all_goals (repeat' (first | refine K_seq ?_ | refine k_cond rfl ?_ | (refine K_region (id := 7) ?_; refine mv ?_; refine mv ?_; (refine cT ?_) <;> (refine KO_nil ?_)) | (refine K_region (id := 8) ?_; refine mv ?_; refine KO_nil ?_)))
      refine K_ret ⟨_, rfl, ?_⟩
      exact ⟨m, s1, .inl ⟨rfl, h3⟩, S⟩
  · refine K_ret ⟨_, rfl, ?_⟩
    exact ⟨m, s1, .inr rfl, S⟩

theorem peq_o {h0 h : AH} {rs : List Rs} {v : Value} {l : List (List UInt8)} (a b q : Nat) (S : Hs h0 h (.sl v 9 1 eS l :: rs)) (hab : a ≤ q ∧ q < b) (hb : b ≤ l.length) (hl : l.length ≤ 1000000) :
    Fn Tryz.prog Xh 159 [v, .int .i64 a, .int .i64 b, .int .i64 q] h (fun r h' => ∃ (e : Nat) (l' : List (List UInt8)), r = .int .i64 e ∧ (a < e ∧ e ≤ b) ∧ Sw a b l l' ∧ (∀ k, a ≤ k → k < e → ¬ sLt (l.getD q default) (l'.getD k default)) ∧ (∀ k, e ≤ k → k < b → sLt (l.getD q default) (l'.getD k default)) ∧ Hs h0 h' (.sl v 9 1 eS l' :: rs)) := by
  have W : WOrd sLt := sLt_ord
  obtain ⟨x, hx⟩ : ∃ x, x = l.getD q default := ⟨_, rfl⟩
  rw [← hx]
  refine Fn_K rfl Tryz.func159 rfl rfl ?_
  all_goals (repeat' (first | refine K_seq ?_ | refine k_block ?_ | (refine K_region (id := 0) ?_; refine mv ?_; refine KO_nil ?_) | (refine K_draw (id := 1) ?_; refine mv ?_; refine mv ?_; refine mv ?_; refine mv ?_; refine mv ?_; refine mv ?_; refine ixS2 S rfl rfl ?_; refine lES2 S rfl rfl ?_; refine mv ?_; refine mv ?_; refine ixS2 S rfl rfl ?_; refine lES2 S rfl rfl ?_; refine ixS2 S rfl rfl ?_; (first | (refine sE2 S rfl rfl ?_; clear S; intro h S)); refine ixS2 S rfl rfl ?_; (first | (refine sE2 S rfl rfl ?_; clear S; intro h S)); refine KO_nil ?_) | (refine K_region (id := 2) ?_; refine mv ?_; refine ad ?_; refine mv ?_; refine sb ?_; refine mv ?_; refine mv ?_; refine KO_nil ?_)))
  (try simp only [toNat_pred, toNat_succ, toNat_sum, Int.toNat_natCast] at S)
  have s1 : Sw a b l (swp l a q) := .one _ _ ⟨by omega, by omega⟩ ⟨by omega, by omega⟩ hb
  have x1 : (swp l a q).getD a default = x := by
    rw [swp_get (by omega) (by omega), hx]
    split
    · rename_i e; rw [e]
    · rw [if_pos rfl]
  refine k_loop (σ := Nat × Nat × List (List UInt8)) (fun (i, j, m) h' => Hs h0 h' (.sl v 9 1 eS m :: rs) ∧ Sw a b l m ∧ EqI sLt a b x i j m) (fun (i, j, m) => j + 1 - i) (fun (i, j, m) => [(0, v), (1, .int .i64 a), (2, .int .i64 b), (3, .int .i64 q), (9, .int .i64 i), (10, .int .i64 j)]) (a + 1, b - 1, swp l a q) (by repeat (first | exact Ks.le_nil _ | refine Ks.le_cons rfl ?_ | refine Ks.le_int ?_)) ?_ ?_
  · exact ⟨S, s1, ⟨by omega, fun k q1 q2 => by omega, fun k q1 q2 => by omega, x1⟩⟩
  clear S s1 x1
  rintro ⟨i0, j0, m⟩ h ⟨S, s1, E⟩
  have hml := s1.len
  skip
  have hbi := E.bi
  have ex := E.x
  refine k_block ?_
  refine K_cut (σ := Nat) (fun i h' => Hs h0 h' (.sl v 9 1 eS m :: rs) ∧ EqI sLt a b x i j0 m ∧ i0 ≤ i ∧ (i ≤ j0 → sLt x (m.getD i default))) (fun i => [(0, v), (1, .int .i64 a), (2, .int .i64 b), (3, .int .i64 q), (9, .int .i64 i), (10, .int .i64 j0)]) ?_ ?_
  · all_goals (repeat' (refine k_block ?_))
    refine k_loop (σ := Nat) (fun i h' => Hs h0 h' (.sl v 9 1 eS m :: rs) ∧ EqI sLt a b x i j0 m ∧ i0 ≤ i) (fun i => j0 + 1 - i) (fun i => [(0, v), (1, .int .i64 a), (2, .int .i64 b), (3, .int .i64 q), (9, .int .i64 i), (10, .int .i64 j0)]) i0 (by repeat (first | exact Ks.le_nil _ | refine Ks.le_cons rfl ?_)) ?_ ?_
    · exact ⟨S, E, Nat.le_refl _⟩
    clear S E hbi
    rintro i h ⟨S, E, hi0⟩
    have hbi := E.bi
    all_goals (repeat' (first | refine K_seq ?_ | refine k_cond rfl ?_ | refine K_exit ?_ | (refine K_draw (id := 3) ?_; refine mv ?_; refine mv ?_; (first | (refine cS ?_ ?_ <;> intro hc)) <;> (refine mv ?_; (first | refine off ?_ | refine mv ?_); (first | refine off ?_ | refine mv ?_); (first | refine off ?_ | (refine ixS2 S rfl rfl ?_)); (first | refine off ?_ | (refine lES2 S rfl rfl ?_)); (first | refine off ?_ | refine mv ?_); (first | refine off ?_ | refine mv ?_); (first | refine off ?_ | (refine ixS2 S rfl rfl ?_)); (first | refine off ?_ | (refine lES2 S rfl rfl ?_)); (first | (refine off ?_; refine off ?_; refine vl ?_; refine KO_nil ?_) | skip)))))
    · simp only [toNat_pred, toNat_succ, toNat_sum, Int.toNat_natCast]
      (refine KO_fn rfl rfl rfl rfl rfl ((less_ok S.wf _ _).mono ?_); rintro _ h ⟨⟨rfl, hq⟩ | ⟨rfl, hq⟩, x⟩) <;> (replace S := S.join0 x; clear x; rw [ex] at hq; refine vl ?_; refine vl ?_; refine KO_nil ?_)
      · all_goals (repeat' (first | refine k_cond rfl ?_ | refine K_exit ?_))
        exact ⟨i, ⟨S, E, hi0, fun _ => hq⟩, ((by repeat (first | exact Ks.le_nil _ | refine Ks.le_cons rfl ?_)))⟩
      · all_goals (repeat' (first | refine k_cond rfl ?_ | refine K_skip ?_ | refine k_block ?_ | (refine K_region (id := 4) ?_; refine mv ?_; refine ad ?_; refine mv ?_; refine KO_nil ?_)))
        refine ⟨i + 1, ?_, ?_, (by repeat (first | exact Ks.le_nil _ | refine Ks.le_cons rfl ?_))⟩
        · show j0 + 1 - (i + 1) < j0 + 1 - i; omega
        · refine ⟨S, ⟨by omega, fun k q1 q2 => ?_, E.hi, ex⟩, by omega⟩
          rcases Nat.lt_or_ge k i with q | q
          · exact E.lo k q1 q
          · obtain rfl : k = i := by omega
            exact hq
    · exact ⟨i, ⟨S, E, hi0, fun q => by omega⟩, ((by repeat (first | exact Ks.le_nil _ | refine Ks.le_cons rfl ?_)))⟩
  clear S E hbi
  rintro i h ⟨S, E, hi0, hi1⟩
  have hbi := E.bi
  refine K_cut (σ := Nat) (fun j h' => Hs h0 h' (.sl v 9 1 eS m :: rs) ∧ EqI sLt a b x i j m ∧ j ≤ j0 ∧ (i ≤ j → ¬ sLt x (m.getD j default))) (fun j => [(0, v), (1, .int .i64 a), (2, .int .i64 b), (3, .int .i64 q), (9, .int .i64 i), (10, .int .i64 j)]) ?_ ?_
  · all_goals (repeat' (refine k_block ?_))
    refine k_loop (σ := Nat) (fun j h' => Hs h0 h' (.sl v 9 1 eS m :: rs) ∧ EqI sLt a b x i j m ∧ j ≤ j0) (fun j => j) (fun j => [(0, v), (1, .int .i64 a), (2, .int .i64 b), (3, .int .i64 q), (9, .int .i64 i), (10, .int .i64 j)]) j0 (by repeat (first | exact Ks.le_nil _ | refine Ks.le_cons rfl ?_)) ?_ ?_
    · exact ⟨S, E, Nat.le_refl _⟩
    clear S E hbi
    rintro j h ⟨S, E, hj0⟩
    have hbi := E.bi
    all_goals (repeat' (first | refine K_seq ?_ | refine k_cond rfl ?_ | refine K_exit ?_ | (refine K_draw (id := 5) ?_; refine mv ?_; refine mv ?_; (first | (refine cS ?_ ?_ <;> intro hc)) <;> (refine mv ?_; (first | refine off ?_ | refine mv ?_); (first | refine off ?_ | refine mv ?_); (first | refine off ?_ | (refine ixS2 S rfl rfl ?_)); (first | refine off ?_ | (refine lES2 S rfl rfl ?_)); (first | refine off ?_ | refine mv ?_); (first | refine off ?_ | refine mv ?_); (first | refine off ?_ | (refine ixS2 S rfl rfl ?_)); (first | refine off ?_ | (refine lES2 S rfl rfl ?_)); (first | (refine off ?_; refine vl ?_; refine KO_nil ?_) | skip)))))
    · simp only [toNat_pred, toNat_succ, toNat_sum, Int.toNat_natCast]
      (refine KO_fn rfl rfl rfl rfl rfl ((less_ok S.wf _ _).mono ?_); rintro _ h ⟨⟨rfl, hq⟩ | ⟨rfl, hq⟩, x⟩) <;> (replace S := S.join0 x; clear x; rw [ex] at hq; refine vl ?_; refine KO_nil ?_)
      · all_goals (repeat' (first | refine k_cond rfl ?_ | refine K_skip ?_ | refine k_block ?_ | (refine K_region (id := 6) ?_; refine mv ?_; refine sb ?_; refine mv ?_; refine KO_nil ?_)))
        refine ⟨j - 1, ?_, ?_, (by repeat (first | exact Ks.le_nil _ | refine Ks.le_cons rfl ?_ | refine Ks.le_int ?_))⟩
        · show j - 1 < j; omega
        · refine ⟨S, ⟨by omega, E.lo, fun k q1 q2 => ?_, ex⟩, by omega⟩
          rcases Nat.lt_or_ge j k with q | q
          · exact E.hi k q q2
          · obtain rfl : k = j := by omega
            exact hq
      · all_goals (repeat' (first | refine k_cond rfl ?_ | refine K_exit ?_))
        exact ⟨j, ⟨S, E, hj0, fun _ => hq⟩, ((by repeat (first | exact Ks.le_nil _ | refine Ks.le_cons rfl ?_)))⟩
    · exact ⟨j, ⟨S, E, hj0, fun q => by omega⟩, ((by repeat (first | exact Ks.le_nil _ | refine Ks.le_cons rfl ?_)))⟩
  clear S E hbi
  rintro j h ⟨S, E, hj0, hj1⟩
  have hbi := E.bi
  skip
  all_goals (repeat' (first | refine K_seq ?_ | refine k_cond rfl ?_ | refine K_skip ?_ | refine K_exit ?_ | (refine K_region (id := 7) ?_; refine mv ?_; refine mv ?_; (first | (refine cS ?_ ?_ <;> intro hc)) <;> (refine KO_nil ?_)) | (refine K_draw (id := 8) ?_; refine mv ?_; refine mv ?_; refine mv ?_; refine mv ?_; refine mv ?_; refine mv ?_; refine ixS2 S rfl rfl ?_; refine lES2 S rfl rfl ?_; refine mv ?_; refine mv ?_; refine ixS2 S rfl rfl ?_; refine lES2 S rfl rfl ?_; refine ixS2 S rfl rfl ?_; (first | (refine sE2 S rfl rfl ?_; clear S; intro h S)); refine ixS2 S rfl rfl ?_; (first | (refine sE2 S rfl rfl ?_; clear S; intro h S)); refine KO_nil ?_) | (refine K_region (id := 9) ?_; refine mv ?_; refine ad ?_; refine mv ?_; refine KO_nil ?_) | (refine K_region (id := 10) ?_; refine mv ?_; refine sb ?_; refine mv ?_; refine KO_nil ?_) | (refine K_region (id := 11) ?_; refine mv ?_; refine mv ?_; refine KO_nil ?_)))
  · refine K_ret ⟨_, rfl, ?_⟩
    refine ⟨i, m, rfl, by omega, s1, fun k q1 q2 => ?_, fun k q1 q2 => E.hi k (by omega) q2, S⟩
    rcases Nat.lt_or_ge a k with q | q
    · exact E.lo k q q2
    · obtain rfl : k = a := by omega
      rw [ex]; exact W.irr _
  · (try simp only [toNat_pred, toNat_succ, toNat_sum, Int.toNat_natCast] at S)
    obtain ⟨z1, z2⟩ := E.swap (by omega) (by omega) (hi1 (by omega)) (hj1 (by omega))
    refine ⟨(i + 1, j - 1, swp m i j), ?_, ?_, (by repeat (first | exact Ks.le_nil _ | refine Ks.le_cons rfl ?_ | refine Ks.le_int ?_))⟩
    · show j - 1 + 1 - (i + 1) < j0 + 1 - i0; omega
    · exact ⟨S, s1.step _ _ ⟨by omega, by omega⟩ ⟨by omega, by omega⟩ (by omega), z2⟩

theorem part_o {h0 h : AH} {rs : List Rs} {v : Value} {l : List (List UInt8)} (a b q : Nat) (S : Hs h0 h (.sl v 9 1 eS l :: rs)) (hab : a ≤ q ∧ q < b) (hb : b ≤ l.length) (hl : l.length ≤ 1000000) :
    Fn Tryz.prog Xh 160 [v, .int .i64 a, .int .i64 b, .int .i64 q] h (fun r h' => ∃ (e : Nat) (f : Bool) (l' : List (List UInt8)), r = .tuple #[.int .i64 e, .bool f] ∧ (a ≤ e ∧ e < b) ∧ Sw a b l l' ∧ Parted sLt a b e l' ∧ Hs h0 h' (.sl v 9 1 eS l' :: rs)) := by
  have W : WOrd sLt := sLt_ord
  obtain ⟨x, hx⟩ : ∃ x, x = l.getD q default := ⟨_, rfl⟩
  refine Fn_K rfl Tryz.func160 rfl rfl ?_
  all_goals (repeat' (first | refine K_seq ?_ | (refine K_region (id := 0) ?_; refine mv ?_; refine mv ?_; refine KO_nil ?_) | (refine K_draw (id := 1) ?_; refine mv ?_; refine mv ?_; refine mv ?_; refine mv ?_; refine mv ?_; refine mv ?_; refine ixS2 S rfl rfl ?_; refine lES2 S rfl rfl ?_; refine mv ?_; refine mv ?_; refine ixS2 S rfl rfl ?_; refine lES2 S rfl rfl ?_; refine ixS2 S rfl rfl ?_; (first | (refine sE2 S rfl rfl ?_; clear S; intro h S)); refine ixS2 S rfl rfl ?_; (first | (refine sE2 S rfl rfl ?_; clear S; intro h S)); refine KO_nil ?_)))
  (repeat (refine K_seq ?_)); refine K_region (id := 2) ?_; refine mv ?_; refine ad ?_; refine mv ?_; refine sb ?_; refine mv ?_; refine mv ?_; refine KO_nil ?_
  (try simp only [toNat_pred, toNat_succ, toNat_sum, Int.toNat_natCast] at S)
  have s1 : Sw a b l (swp l a q) := .one _ _ ⟨by omega, by omega⟩ ⟨by omega, by omega⟩ hb
  have x1 : (swp l a q).getD a default = x := by
    rw [swp_get (by omega) (by omega), hx]
    split
    · rename_i e; rw [e]
    · rw [if_pos rfl]
  obtain ⟨m, hm⟩ : ∃ m, m = swp l a q := ⟨_, rfl⟩
  replace S : Hs h0 h (.sl v 9 1 eS m :: rs) := by rw [hm]; exact S
  rw [← hm] at s1 x1
  have hml := s1.len
  skip
  have ex := x1
  have E : PartI sLt a b x (a + 1) (b - 1) m := ⟨by omega, fun k q1 q2 => by omega, fun k q1 q2 => by omega, x1⟩
  have hbi := E.bi
  refine K_cut (σ := Nat) (fun i h' => Hs h0 h' (.sl v 9 1 eS m :: rs) ∧ PartI sLt a b x i (b - 1) m ∧ (a + 1) ≤ i ∧ (i ≤ (b - 1) → ¬ sLt (m.getD i default) x)) (fun i => [(0, v), (1, .int .i64 a), (2, .int .i64 b), (3, .int .i64 q), (10, .int .i64 i), (11, .int .i64 (b - 1 : Nat))]) ?_ ?_
  · all_goals (repeat' (refine k_block ?_))
    refine k_loop (σ := Nat) (fun i h' => Hs h0 h' (.sl v 9 1 eS m :: rs) ∧ PartI sLt a b x i (b - 1) m ∧ (a + 1) ≤ i) (fun i => (b - 1) + 1 - i) (fun i => [(0, v), (1, .int .i64 a), (2, .int .i64 b), (3, .int .i64 q), (10, .int .i64 i), (11, .int .i64 (b - 1 : Nat))]) (a + 1) (by repeat (first | exact Ks.le_nil _ | refine Ks.le_cons rfl ?_ | refine Ks.le_int ?_)) ?_ ?_
    · exact ⟨S, E, Nat.le_refl _⟩
    clear S E hbi
    rintro i h ⟨S, E, hi0⟩
    have hbi := E.bi
    all_goals (repeat' (first | refine K_seq ?_ | refine k_cond rfl ?_ | refine K_exit ?_ | (refine K_draw (id := 3) ?_; refine mv ?_; refine mv ?_; (first | (refine cS ?_ ?_ <;> intro hc)) <;> (refine mv ?_; (first | refine off ?_ | refine mv ?_); (first | refine off ?_ | refine mv ?_); (first | refine off ?_ | (refine ixS2 S rfl rfl ?_)); (first | refine off ?_ | (refine lES2 S rfl rfl ?_)); (first | refine off ?_ | refine mv ?_); (first | refine off ?_ | refine mv ?_); (first | refine off ?_ | (refine ixS2 S rfl rfl ?_)); (first | refine off ?_ | (refine lES2 S rfl rfl ?_)); (first | (refine off ?_; refine vl ?_; refine KO_nil ?_) | skip)))))
    · simp only [toNat_pred, toNat_succ, toNat_sum, Int.toNat_natCast]
      (refine KO_fn rfl rfl rfl rfl rfl ((less_ok S.wf _ _).mono ?_); rintro _ h ⟨⟨rfl, hq⟩ | ⟨rfl, hq⟩, x⟩) <;> (replace S := S.join0 x; clear x; rw [ex] at hq; refine vl ?_; refine KO_nil ?_)
      · all_goals (repeat' (first | refine k_cond rfl ?_ | refine K_skip ?_ | refine k_block ?_ | (refine K_region (id := 4) ?_; refine mv ?_; refine ad ?_; refine mv ?_; refine KO_nil ?_)))
        refine ⟨i + 1, ?_, ?_, (by repeat (first | exact Ks.le_nil _ | refine Ks.le_cons rfl ?_))⟩
        · show (b - 1) + 1 - (i + 1) < (b - 1) + 1 - i; omega
        · refine ⟨S, ⟨by omega, fun k q1 q2 => ?_, E.hi, ex⟩, by omega⟩
          rcases Nat.lt_or_ge k i with q | q
          · exact E.lo k q1 q
          · obtain rfl : k = i := by omega
            exact hq
      · all_goals (repeat' (first | refine k_cond rfl ?_ | refine K_exit ?_))
        exact ⟨i, ⟨S, E, hi0, fun _ => hq⟩, ((by repeat (first | exact Ks.le_nil _ | refine Ks.le_cons rfl ?_)))⟩
    · exact ⟨i, ⟨S, E, hi0, fun q => by omega⟩, ((by repeat (first | exact Ks.le_nil _ | refine Ks.le_cons rfl ?_)))⟩
  clear S E hbi
  rintro i h ⟨S, E, hi0, hi1⟩
  have hbi := E.bi
  refine K_cut (σ := Nat) (fun j h' => Hs h0 h' (.sl v 9 1 eS m :: rs) ∧ PartI sLt a b x i j m ∧ j ≤ (b - 1) ∧ (i ≤ j → sLt (m.getD j default) x)) (fun j => [(0, v), (1, .int .i64 a), (2, .int .i64 b), (3, .int .i64 q), (10, .int .i64 i), (11, .int .i64 j)]) ?_ ?_
  · all_goals (repeat' (refine k_block ?_))
    refine k_loop (σ := Nat) (fun j h' => Hs h0 h' (.sl v 9 1 eS m :: rs) ∧ PartI sLt a b x i j m ∧ j ≤ (b - 1)) (fun j => j) (fun j => [(0, v), (1, .int .i64 a), (2, .int .i64 b), (3, .int .i64 q), (10, .int .i64 i), (11, .int .i64 j)]) (b - 1) (by repeat (first | exact Ks.le_nil _ | refine Ks.le_cons rfl ?_)) ?_ ?_
    · exact ⟨S, E, Nat.le_refl _⟩
    clear S E hbi
    rintro j h ⟨S, E, hj0⟩
    have hbi := E.bi
    all_goals (repeat' (first | refine K_seq ?_ | refine k_cond rfl ?_ | refine K_exit ?_ | (refine K_draw (id := 5) ?_; refine mv ?_; refine mv ?_; (first | (refine cS ?_ ?_ <;> intro hc)) <;> (refine mv ?_; (first | refine off ?_ | refine mv ?_); (first | refine off ?_ | refine mv ?_); (first | refine off ?_ | (refine ixS2 S rfl rfl ?_)); (first | refine off ?_ | (refine lES2 S rfl rfl ?_)); (first | refine off ?_ | refine mv ?_); (first | refine off ?_ | refine mv ?_); (first | refine off ?_ | (refine ixS2 S rfl rfl ?_)); (first | refine off ?_ | (refine lES2 S rfl rfl ?_)); (first | (refine off ?_; refine off ?_; refine vl ?_; refine KO_nil ?_) | skip)))))
    · simp only [toNat_pred, toNat_succ, toNat_sum, Int.toNat_natCast]
      (refine KO_fn rfl rfl rfl rfl rfl ((less_ok S.wf _ _).mono ?_); rintro _ h ⟨⟨rfl, hq⟩ | ⟨rfl, hq⟩, x⟩) <;> (replace S := S.join0 x; clear x; rw [ex] at hq; refine vl ?_; refine vl ?_; refine KO_nil ?_)
      · all_goals (repeat' (first | refine k_cond rfl ?_ | refine K_exit ?_))
        exact ⟨j, ⟨S, E, hj0, fun _ => hq⟩, ((by repeat (first | exact Ks.le_nil _ | refine Ks.le_cons rfl ?_)))⟩
      · all_goals (repeat' (first | refine k_cond rfl ?_ | refine K_skip ?_ | refine k_block ?_ | (refine K_region (id := 6) ?_; refine mv ?_; refine sb ?_; refine mv ?_; refine KO_nil ?_)))
        refine ⟨j - 1, ?_, ?_, (by repeat (first | exact Ks.le_nil _ | refine Ks.le_cons rfl ?_ | refine Ks.le_int ?_))⟩
        · show j - 1 < j; omega
        · refine ⟨S, ⟨by omega, E.lo, fun k q1 q2 => ?_, ex⟩, by omega⟩
          rcases Nat.lt_or_ge j k with q | q
          · exact E.hi k q q2
          · obtain rfl : k = j := by omega
            exact hq
    · exact ⟨j, ⟨S, E, hj0, fun q => by omega⟩, ((by repeat (first | exact Ks.le_nil _ | refine Ks.le_cons rfl ?_)))⟩
  clear S E hbi
  rintro j h ⟨S, E, hj0, hj1⟩
  have hbi := E.bi
  skip
  all_goals (repeat' (first | refine K_seq ?_ | refine k_cond rfl ?_ | refine K_skip ?_ | refine k_block ?_ | (refine K_region (id := 7) ?_; refine mv ?_; refine mv ?_; (first | (refine cS ?_ ?_ <;> intro hc)) <;> (refine KO_nil ?_)) | (refine K_draw (id := 8) ?_; refine mv ?_; refine mv ?_; refine mv ?_; refine mv ?_; refine mv ?_; refine mv ?_; refine ixS2 S rfl rfl ?_; refine lES2 S rfl rfl ?_; refine mv ?_; refine mv ?_; refine ixS2 S rfl rfl ?_; refine lES2 S rfl rfl ?_; refine ixS2 S rfl rfl ?_; (first | (refine sE2 S rfl rfl ?_; clear S; intro h S)); refine ixS2 S rfl rfl ?_; (first | (refine sE2 S rfl rfl ?_; clear S; intro h S)); refine KO_nil ?_) | (refine K_region (id := 9) ?_; refine mv ?_; refine mv ?_; refine mv ?_; refine KO_nil ?_) | (refine K_draw (id := 10) ?_; refine mv ?_; refine mv ?_; refine mv ?_; refine mv ?_; refine mv ?_; refine mv ?_; refine ixS2 S rfl rfl ?_; refine lES2 S rfl rfl ?_; refine mv ?_; refine mv ?_; refine ixS2 S rfl rfl ?_; refine lES2 S rfl rfl ?_; refine ixS2 S rfl rfl ?_; (first | (refine sE2 S rfl rfl ?_; clear S; intro h S)); refine ixS2 S rfl rfl ?_; (first | (refine sE2 S rfl rfl ?_; clear S; intro h S)); refine KO_nil ?_) | (refine K_region (id := 11) ?_; refine mv ?_; refine ad ?_; refine mv ?_; refine KO_nil ?_) | (refine K_region (id := 12) ?_; refine mv ?_; refine sb ?_; refine mv ?_; refine KO_nil ?_)))
  · (try simp only [toNat_pred, toNat_succ, toNat_sum, Int.toNat_natCast] at S)
    refine K_ret ⟨_, rfl, ?_⟩
    exact ⟨j, true, swp m j a, rfl, by omega, s1.step _ _ ⟨by omega, by omega⟩ ⟨by omega, by omega⟩ (by omega), E.done W (by omega) (by omega), S⟩
  (try simp only [toNat_pred, toNat_succ, toNat_sum, Int.toNat_natCast] at S)
  obtain ⟨z1, z2⟩ := E.swap (by omega) (by omega) (hi1 (by omega)) (hj1 (by omega))
  refine k_loop (σ := Nat × Nat × List (List UInt8)) (fun (i, j, m) h' => Hs h0 h' (.sl v 9 1 eS m :: rs) ∧ Sw a b l m ∧ PartI sLt a b x i j m) (fun (i, j, m) => j + 1 - i) (fun (i, j, m) => [(0, v), (1, .int .i64 a), (2, .int .i64 b), (3, .int .i64 q), (10, .int .i64 i), (11, .int .i64 j)]) (i + 1, j - 1, swp m i j) (by repeat (first | exact Ks.le_nil _ | refine Ks.le_cons rfl ?_ | refine Ks.le_int ?_)) ?_ ?_
  · exact ⟨S, s1.step _ _ ⟨by omega, by omega⟩ ⟨by omega, by omega⟩ (by omega), z2⟩
  clear S s1 x1 E hbi hi0 hi1 hj0 hj1 z1 z2 hml ex hm
  skip
  rintro ⟨i0, j0, m⟩ h ⟨S, s1, E⟩
  have hml := s1.len
  skip
  have hbi := E.bi
  have ex := E.x
  refine k_block ?_
  refine K_cut (σ := Nat) (fun i h' => Hs h0 h' (.sl v 9 1 eS m :: rs) ∧ PartI sLt a b x i j0 m ∧ i0 ≤ i ∧ (i ≤ j0 → ¬ sLt (m.getD i default) x)) (fun i => [(0, v), (1, .int .i64 a), (2, .int .i64 b), (3, .int .i64 q), (10, .int .i64 i), (11, .int .i64 j0)]) ?_ ?_
  · all_goals (repeat' (refine k_block ?_))
    refine k_loop (σ := Nat) (fun i h' => Hs h0 h' (.sl v 9 1 eS m :: rs) ∧ PartI sLt a b x i j0 m ∧ i0 ≤ i) (fun i => j0 + 1 - i) (fun i => [(0, v), (1, .int .i64 a), (2, .int .i64 b), (3, .int .i64 q), (10, .int .i64 i), (11, .int .i64 j0)]) i0 (by repeat (first | exact Ks.le_nil _ | refine Ks.le_cons rfl ?_)) ?_ ?_
    · exact ⟨S, E, Nat.le_refl _⟩
    clear S E hbi
    rintro i h ⟨S, E, hi0⟩
    have hbi := E.bi
    all_goals (repeat' (first | refine K_seq ?_ | refine k_cond rfl ?_ | refine K_exit ?_ | (refine K_draw (id := 13) ?_; refine mv ?_; refine mv ?_; (first | (refine cS ?_ ?_ <;> intro hc)) <;> (refine mv ?_; (first | refine off ?_ | refine mv ?_); (first | refine off ?_ | refine mv ?_); (first | refine off ?_ | (refine ixS2 S rfl rfl ?_)); (first | refine off ?_ | (refine lES2 S rfl rfl ?_)); (first | refine off ?_ | refine mv ?_); (first | refine off ?_ | refine mv ?_); (first | refine off ?_ | (refine ixS2 S rfl rfl ?_)); (first | refine off ?_ | (refine lES2 S rfl rfl ?_)); (first | (refine off ?_; refine vl ?_; refine KO_nil ?_) | skip)))))
    · simp only [toNat_pred, toNat_succ, toNat_sum, Int.toNat_natCast]
      (refine KO_fn rfl rfl rfl rfl rfl ((less_ok S.wf _ _).mono ?_); rintro _ h ⟨⟨rfl, hq⟩ | ⟨rfl, hq⟩, x⟩) <;> (replace S := S.join0 x; clear x; rw [ex] at hq; refine vl ?_; refine KO_nil ?_)
      · all_goals (repeat' (first | refine k_cond rfl ?_ | refine K_skip ?_ | refine k_block ?_ | (refine K_region (id := 14) ?_; refine mv ?_; refine ad ?_; refine mv ?_; refine KO_nil ?_)))
        refine ⟨i + 1, ?_, ?_, (by repeat (first | exact Ks.le_nil _ | refine Ks.le_cons rfl ?_))⟩
        · show j0 + 1 - (i + 1) < j0 + 1 - i; omega
        · refine ⟨S, ⟨by omega, fun k q1 q2 => ?_, E.hi, ex⟩, by omega⟩
          rcases Nat.lt_or_ge k i with q | q
          · exact E.lo k q1 q
          · obtain rfl : k = i := by omega
            exact hq
      · all_goals (repeat' (first | refine k_cond rfl ?_ | refine K_exit ?_))
        exact ⟨i, ⟨S, E, hi0, fun _ => hq⟩, ((by repeat (first | exact Ks.le_nil _ | refine Ks.le_cons rfl ?_)))⟩
    · exact ⟨i, ⟨S, E, hi0, fun q => by omega⟩, ((by repeat (first | exact Ks.le_nil _ | refine Ks.le_cons rfl ?_)))⟩
  clear S E hbi
  rintro i h ⟨S, E, hi0, hi1⟩
  have hbi := E.bi
  refine K_cut (σ := Nat) (fun j h' => Hs h0 h' (.sl v 9 1 eS m :: rs) ∧ PartI sLt a b x i j m ∧ j ≤ j0 ∧ (i ≤ j → sLt (m.getD j default) x)) (fun j => [(0, v), (1, .int .i64 a), (2, .int .i64 b), (3, .int .i64 q), (10, .int .i64 i), (11, .int .i64 j)]) ?_ ?_
  · all_goals (repeat' (refine k_block ?_))
    refine k_loop (σ := Nat) (fun j h' => Hs h0 h' (.sl v 9 1 eS m :: rs) ∧ PartI sLt a b x i j m ∧ j ≤ j0) (fun j => j) (fun j => [(0, v), (1, .int .i64 a), (2, .int .i64 b), (3, .int .i64 q), (10, .int .i64 i), (11, .int .i64 j)]) j0 (by repeat (first | exact Ks.le_nil _ | refine Ks.le_cons rfl ?_)) ?_ ?_
    · exact ⟨S, E, Nat.le_refl _⟩
    clear S E hbi
    rintro j h ⟨S, E, hj0⟩
    have hbi := E.bi
    all_goals (repeat' (first | refine K_seq ?_ | refine k_cond rfl ?_ | refine K_exit ?_ | (refine K_draw (id := 15) ?_; refine mv ?_; refine mv ?_; (first | (refine cS ?_ ?_ <;> intro hc)) <;> (refine mv ?_; (first | refine off ?_ | refine mv ?_); (first | refine off ?_ | refine mv ?_); (first | refine off ?_ | (refine ixS2 S rfl rfl ?_)); (first | refine off ?_ | (refine lES2 S rfl rfl ?_)); (first | refine off ?_ | refine mv ?_); (first | refine off ?_ | refine mv ?_); (first | refine off ?_ | (refine ixS2 S rfl rfl ?_)); (first | refine off ?_ | (refine lES2 S rfl rfl ?_)); (first | (refine off ?_; refine off ?_; refine vl ?_; refine KO_nil ?_) | skip)))))
    · simp only [toNat_pred, toNat_succ, toNat_sum, Int.toNat_natCast]
      (refine KO_fn rfl rfl rfl rfl rfl ((less_ok S.wf _ _).mono ?_); rintro _ h ⟨⟨rfl, hq⟩ | ⟨rfl, hq⟩, x⟩) <;> (replace S := S.join0 x; clear x; rw [ex] at hq; refine vl ?_; refine vl ?_; refine KO_nil ?_)
      · all_goals (repeat' (first | refine k_cond rfl ?_ | refine K_exit ?_))
        exact ⟨j, ⟨S, E, hj0, fun _ => hq⟩, ((by repeat (first | exact Ks.le_nil _ | refine Ks.le_cons rfl ?_)))⟩
      · all_goals (repeat' (first | refine k_cond rfl ?_ | refine K_skip ?_ | refine k_block ?_ | (refine K_region (id := 16) ?_; refine mv ?_; refine sb ?_; refine mv ?_; refine KO_nil ?_)))
        refine ⟨j - 1, ?_, ?_, (by repeat (first | exact Ks.le_nil _ | refine Ks.le_cons rfl ?_ | refine Ks.le_int ?_))⟩
        · show j - 1 < j; omega
        · refine ⟨S, ⟨by omega, E.lo, fun k q1 q2 => ?_, ex⟩, by omega⟩
          rcases Nat.lt_or_ge j k with q | q
          · exact E.hi k q q2
          · obtain rfl : k = j := by omega
            exact hq
    · exact ⟨j, ⟨S, E, hj0, fun q => by omega⟩, ((by repeat (first | exact Ks.le_nil _ | refine Ks.le_cons rfl ?_)))⟩
  clear S E hbi
  rintro j h ⟨S, E, hj0, hj1⟩
  have hbi := E.bi
  skip
  all_goals (repeat' (first | refine K_seq ?_ | refine k_cond rfl ?_ | refine K_skip ?_ | refine K_exit ?_ | (refine K_region (id := 17) ?_; refine mv ?_; refine mv ?_; (first | (refine cS ?_ ?_ <;> intro hc)) <;> (refine KO_nil ?_)) | (refine K_draw (id := 18) ?_; refine mv ?_; refine mv ?_; refine mv ?_; refine mv ?_; refine mv ?_; refine mv ?_; refine ixS2 S rfl rfl ?_; refine lES2 S rfl rfl ?_; refine mv ?_; refine mv ?_; refine ixS2 S rfl rfl ?_; refine lES2 S rfl rfl ?_; refine ixS2 S rfl rfl ?_; (first | (refine sE2 S rfl rfl ?_; clear S; intro h S)); refine ixS2 S rfl rfl ?_; (first | (refine sE2 S rfl rfl ?_; clear S; intro h S)); refine KO_nil ?_) | (refine K_region (id := 19) ?_; refine mv ?_; refine ad ?_; refine mv ?_; refine KO_nil ?_) | (refine K_region (id := 20) ?_; refine mv ?_; refine sb ?_; refine mv ?_; refine KO_nil ?_) | (refine K_draw (id := 21) ?_; refine mv ?_; refine mv ?_; refine mv ?_; refine mv ?_; refine mv ?_; refine mv ?_; refine ixS2 S rfl rfl ?_; refine lES2 S rfl rfl ?_; refine mv ?_; refine mv ?_; refine ixS2 S rfl rfl ?_; refine lES2 S rfl rfl ?_; refine ixS2 S rfl rfl ?_; (first | (refine sE2 S rfl rfl ?_; clear S; intro h S)); refine ixS2 S rfl rfl ?_; (first | (refine sE2 S rfl rfl ?_; clear S; intro h S)); refine KO_nil ?_) | (refine K_region (id := 22) ?_; refine mv ?_; refine mv ?_; refine mv ?_; refine KO_nil ?_)))
  · (try simp only [toNat_pred, toNat_succ, toNat_sum, Int.toNat_natCast] at S)
    refine K_ret ⟨_, rfl, ?_⟩
    exact ⟨j, false, swp m j a, rfl, by omega, s1.step _ _ ⟨by omega, by omega⟩ ⟨by omega, by omega⟩ (by omega), E.done W (by omega) (by omega), S⟩
  · (try simp only [toNat_pred, toNat_succ, toNat_sum, Int.toNat_natCast] at S)
    obtain ⟨z1, z2⟩ := E.swap (by omega) (by omega) (hi1 (by omega)) (hj1 (by omega))
    refine ⟨(i + 1, j - 1, swp m i j), ?_, ?_, (by repeat (first | exact Ks.le_nil _ | refine Ks.le_cons rfl ?_ | refine Ks.le_int ?_))⟩
    · show j - 1 + 1 - (i + 1) < j0 + 1 - i0; omega
    · exact ⟨S, s1.step _ _ ⟨by omega, by omega⟩ ⟨by omega, by omega⟩ (by omega), z2⟩

end Go.Proofs.Xx
