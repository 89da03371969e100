/-
  HallChecks: its contract.
-/
import Derived.Test.YtnopenpheaihmaaGreatDoorM8
import Derived.Test.YtnopenpheaihmaaGreatDoorM5
import Derived.Test.YtnopenpheaihmaaGreatDoorRows
import Derived.Lib.LaidTab

namespace Go.Proofs.Xx
open Go Go.Proofs
set_option linter.unusedSimpArgs false
set_option linter.unusedVariables false
set_option maxRecDepth 100000
set_option maxHeartbeats 1000000

section
variable {l2 l : List Tab}
theorem SameAll.all (s : SameAll l2 l) (i : Nat) : SameTab (tb l2 i) (tb l i) := by
  rcases Nat.lt_or_ge i l2.length with h | h
  · exact s.2 i h
  · have := s.1
    simp only [tb, List.getD_eq_getElem?_getD, List.getElem?_eq_none h, List.getElem?_eq_none (show l.length ≤ i by omega)]
    rfl
theorem SameAll.chk (s : SameAll l2 l) (i : Nat) : chk (tb l2 i) = chk (tb l i) := by have := s.all i; unfold SameTab at this; rw [this]; rfl
theorem SameAll.name (s : SameAll l2 l) (i : Nat) : (tb l2 i).name = (tb l i).name := by have := s.all i; unfold SameTab at this; rw [this]
theorem SameAll.size (s : SameAll l2 l) (i : Nat) : tsize (tb l2 i) = tsize (tb l i) := by have := s.all i; unfold SameTab at this; rw [this]; rfl
theorem SameAll.chkAll {i e : Int} (s : SameAll l2 l) (k : ChkAll l2 i e) : ChkAll l i e := by
  unfold ChkAll goodAt dupAt at k ⊢
  simp only [s.chk, s.name, s.1] at k
  exact k
theorem SameAll.valid (s : SameAll l2 l) : ValidL l2 ↔ ValidL l := by
  unfold ValidL goodAt dupAt
  simp only [s.chk, s.name, s.1]
theorem SameAll.sum (s : SameAll l2 l) : ∀ n, sumT l2 n = sumT l n
  | 0 => rfl
  | n + 1 => by simp only [sumT, s.sum n, s.size]
theorem SameAll.first (s : SameAll l2 l) (t : Int) : firstV l2 t = firstV l t := by
  unfold firstV
  by_cases q : 0 ≤ t ∧ t < l.length ∧ ValidL l
  · rw [if_pos q, if_pos ⟨q.1, by rw [s.1]; exact q.2.1, s.valid.2 q.2.2⟩, s.sum]
  · rw [if_neg q, if_neg fun k => q ⟨k.1, by rw [← s.1]; exact k.2.1, s.valid.1 k.2.2⟩]
theorem SameAll.count (s : SameAll l2 l) : countV l2 = countV l := by
  unfold countV
  by_cases q : ValidL l
  · rw [if_pos q, if_pos (s.valid.2 q), s.sum, s.1]
  · rw [if_neg q, if_neg fun k => q (s.valid.1 k)]
theorem SameAll.seats (s : SameAll l2 l) (i : Nat) : seatsV (tb l2 i) = seatsV (tb l i) := by
  unfold seatsV
  simp only [s.chk, s.size]
def FindR (l : List Tab) (nm : List UInt8) (k2 : Int) (f2 : Bool) : Prop :=
  (f2 = true ∧ ∃ k : Nat, k2 = k ∧ ValidL l ∧ k < l.length ∧ (tb l k).name = nm ∧ ∀ j, j < k → ¬ (tb l j).name = nm) ∨ (f2 = false ∧ k2 = 0 ∧ (¬ ValidL l ∨ ∀ j, j < l.length → ¬ (tb l j).name = nm))
theorem SameAll.findR {nm : List UInt8} {a : Int} {b : Bool} (s : SameAll l2 l) (k : FindR l2 nm a b) : FindR l nm a b := by
  unfold FindR at k ⊢
  simp only [s.valid, s.name, s.1] at k
  exact k
theorem find2_ok {h0 : AH} (w : WfH h0) (v : Value) (l : List Tab) (H : HallR h0 v l) (nm : List UInt8) : Fn Tryz.prog Xh 32 [v, str nm] h0 (fun r h' => ∃ k2 f2, r = .tuple #[.int .i64 k2, .bool f2] ∧ FindR l nm k2 f2 ∧ Hs h0 h' []) := by
  refine (find_ok w v l H nm).mono ?_
  rintro r h ⟨⟨k, rfl, q⟩ | ⟨rfl, q⟩, x⟩
  · exact ⟨_, _, rfl, .inl ⟨rfl, k, rfl, q⟩, x⟩
  · exact ⟨_, _, rfl, .inr ⟨rfl, rfl, q⟩, x⟩
theorem ValidL.one (k : ValidL l) {i j : Nat} (hi : i < l.length) (hj : j < l.length) (h : (tb l i).name = (tb l j).name) : i = j := by
  rcases Nat.lt_trichotomy i j with q | q | q
  · exact absurd ⟨i, q, h⟩ (k.2 j hj).2
  · exact q
  · exact absurd ⟨j, q, h.symm⟩ (k.2 i hi).2
end
theorem awake_ok {h0 : AH} : Fn Tryz.prog Xh 21 [] h0 (fun v h' => v = .bool true ∧ h' = h0) := Fn_known rfl ⟨rfl, rfl⟩

theorem checks_ok {h0 : AH} (w : WfH h0) (v : Value) (l : List Tab) (H : HallR h0 v l) (nm : List UInt8) (t : Int) : Fn Tryz.prog Xh 23 [v, str nm, .int .i64 t] h0 (fun r h' => r = .bool true ∧ Hs h0 h' []) := by
  have S := Hs.start w
  have hl := H.len
  refine Fn_K rfl Tryz.func23 rfl rfl ?_
  all_goals (repeat' (first | refine K_seq ?_ | refine k_cond rfl ?_ | refine K_skip ?_ | refine K_exit ?_ | refine k_block ?_ | refine K_scope ?_ | (refine K_region (id := 0) ?_; refine mv ?_; refine KO_nil ?_) | (refine K_region (id := 1) ?_; refine mv ?_)))
  (refine KO_fn rfl rfl rfl rfl rfl ((copy_ok S.wf v l H.rd H.len H.tab).mono ?_); rintro u g ⟨l2, sa, Hu, x⟩) <;> (replace S := S.join0 x; clear x; refine mv ?_; refine KO_nil ?_)
  have T := S
  have w1 := S.wf
  have H1 := H.ext w S.ext
  have hl2 := sa.1
  have hr1 := H1.rd
  have hru := Hu.rd
  replace S := Hs.start w1
  all_goals (repeat' (first | refine K_seq ?_ | refine k_cond rfl ?_ | refine K_skip ?_ | refine K_exit ?_ | refine k_block ?_ | refine K_scope ?_ | (refine K_region (id := 2) ?_; refine mv ?_)))
  (refine KO_fn rfl rfl rfl rfl rfl ((checkAll_ok S.wf u l2 (Hu.ext w1 S.ext)).mono ?_); rintro _ h ⟨ci, e, rfl, hk, x⟩) <;> (replace S := S.join0 x; clear x; refine mv ?_; refine vl ?_; refine vl ?_; refine mv ?_; refine mv ?_; refine KO_nil ?_)
  all_goals (repeat' (first | refine K_seq ?_ | refine k_cond rfl ?_ | refine K_skip ?_ | refine K_exit ?_ | refine k_block ?_ | refine K_scope ?_ | (refine K_region (id := 3) ?_; refine mv ?_)))
  (refine KO_fn rfl rfl rfl rfl rfl ((refCheckAll_ok S.wf v l (H1.ext w1 S.ext)).mono ?_); rintro _ h ⟨i', e', rfl, hk2, x⟩) <;> (replace S := S.join0 x; clear x; obtain ⟨rfl, rfl⟩ := (sa.chkAll hk).uniq hk2; refine mv ?_; refine vl ?_; refine vl ?_; refine mv ?_; refine mv ?_; refine KO_nil ?_)
  all_goals (repeat' (first | refine K_seq ?_ | refine k_cond rfl ?_ | refine K_skip ?_ | refine K_exit ?_ | refine k_block ?_ | refine K_scope ?_ | (refine K_region (id := 4) ?_; refine mv ?_; refine mv ?_; (first | refine cT ?_ | refine cF ?_ | (refine cS ?_ ?_ <;> intro hc)) <;> (refine mv ?_; (first | refine off ?_ | refine mv ?_); (first | refine off ?_ | refine mv ?_); (first | refine off ?_ | (first | refine cT ?_ | refine cF ?_ | (refine cS ?_ ?_ <;> intro hc))) <;> (refine vl ?_; refine KO_nil ?_))) | (refine K_region (id := 5) ?_; refine mv ?_; refine KO_nil ?_) | (refine K_region (id := 6) ?_; refine mv ?_; (first | refine lnB S ?_ | refine lnS S rfl rfl ?_); refine mv ?_; refine KO_nil ?_)))
  refine k_loop (σ := Nat) (fun i h' => Hs g h' [] ∧ i ≤ l.length) (fun i => l.length - i) (fun i => [(0, v), (1, str nm), (2, .int .i64 t), (7, u), (11, .int .i64 e), (42, u), (43, .int .i64 l2.length), (44, .int .i64 i)]) 0 (by repeat (first | exact Ks.le_nil _ | refine Ks.le_cons rfl ?_ | refine Ks.le_int ?_)) ?_ ?_
  · exact ⟨S, Nat.zero_le _⟩
  clear S
  rintro i h ⟨S, h1⟩
  all_goals (repeat' (first | refine K_seq ?_ | refine k_cond rfl ?_ | refine K_skip ?_ | refine K_exit ?_ | refine k_block ?_ | refine K_scope ?_ | (refine K_region (id := 7) ?_; (first | refine cT ?_ | refine cF ?_ | (refine cS ?_ ?_ <;> intro hc)) <;> (refine KO_nil ?_)) | (refine K_region (id := 8) ?_; refine mv ?_; refine mv ?_; refine KO_nil ?_) | (refine K_region (id := 9) ?_; refine mv ?_; refine mv ?_; (first | refine ixB S ?_ | refine ixS S rfl rfl ?_); (first | refine lB S rfl rfl ?_ | refine lES S rfl rfl ?_ | refine lEB S ?_ | refine lH S ?_)) | (refine K_region (id := 16) ?_; refine mv ?_; refine mv ?_; refine mv ?_; refine mv ?_; refine KO_nil ?_) | (refine K_region (id := 17) ?_; refine mv ?_; (first | refine cT ?_ | refine cF ?_ | (refine cS ?_ ?_ <;> intro hc)) <;> (refine KO_nil ?_)) | (refine K_region (id := 18) ?_; refine mv ?_) | (refine K_region (id := 27) ?_; refine mv ?_; refine mv ?_)))
  · (try simp only [Int.toNat_natCast] at *)
    have hi : i < l.length := by omega
    have e1 := sa.chk i
    have e2 := sa.seats i
    (refine KO_fn rfl rfl rfl rfl rfl ((refCheck_ok S.wf (tb l i) ((H1.ext w1 S.ext).tab i hi)).mono ?_); rintro _ h ⟨rfl, x⟩) <;> (replace S := S.join0 x; clear x; refine mv ?_; refine KO_nil ?_)
    all_goals (repeat' (first | refine K_seq ?_ | refine k_cond rfl ?_ | refine K_skip ?_ | refine K_exit ?_ | refine k_block ?_ | refine K_scope ?_ | (refine K_region (id := 10) ?_; refine mv ?_; refine KO_nil ?_) | (refine K_region (id := 11) ?_; refine mv ?_; (first | refine cT ?_ | refine cF ?_ | (refine cS ?_ ?_ <;> intro hc)) <;> (refine KO_nil ?_)) | (refine K_region (id := 12) ?_; refine mv ?_; refine mv ?_; (first | refine ixB S ?_ | refine ixS S rfl rfl ?_); (first | refine lB S rfl rfl ?_ | refine lES S rfl rfl ?_ | refine lEB S ?_ | refine lH S ?_)) | (refine K_region (id := 13) ?_; refine mv ?_; refine mv ?_; (first | refine ixB S ?_ | refine ixS S rfl rfl ?_); (first | refine lB S rfl rfl ?_ | refine lES S rfl rfl ?_ | refine lEB S ?_ | refine lH S ?_))))
    · have e3 : seatsV (tb l i) = tsize (tb l i) := by unfold seatsV; rw [if_pos hc]
      (refine KO_fn rfl rfl rfl rfl rfl ((refSize_ok S.wf (tb l i)).mono ?_); rintro _ h ⟨rfl, x⟩) <;> (replace S := S.join0 x; clear x; refine mv ?_; refine KO_nil ?_)
      all_goals (repeat' (first | refine K_seq ?_ | refine k_cond rfl ?_ | refine K_skip ?_ | refine K_exit ?_ | refine k_block ?_ | refine K_scope ?_ | (refine K_region (id := 13) ?_; refine mv ?_; refine mv ?_; (first | refine ixB S ?_ | refine ixS S rfl rfl ?_); (first | refine lB S rfl rfl ?_ | refine lES S rfl rfl ?_ | refine lEB S ?_ | refine lH S ?_))))
      (try simp only [Int.toNat_natCast] at *)
      (refine KO_fn rfl rfl rfl rfl rfl ((check_ok S.wf (tb l2 i) ((Hu.ext w1 S.ext).tab i (by omega))).mono ?_); rintro _ h ⟨rfl, x⟩) <;> (replace S := S.join0 x; clear x; refine mv ?_; (first | refine cT ?_ | refine cF ?_ | (refine cS ?_ ?_ <;> intro hc)) <;> (refine mv ?_; (first | refine off ?_ | refine mv ?_); (first | refine off ?_ | refine mv ?_); (first | refine off ?_ | (first | refine ixB S ?_ | refine ixS S rfl rfl ?_)); (first | refine off ?_ | (first | refine lB S rfl rfl ?_ | refine lES S rfl rfl ?_ | refine lEB S ?_ | refine lH S ?_)); (first | (refine off ?_; (first | refine off ?_ | refine mv ?_); (first | refine off ?_ | (first | refine cT ?_ | refine cF ?_ | (refine cS ?_ ?_ <;> intro hc))) <;> (refine vl ?_; refine KO_nil ?_)) | skip)))
      (try simp only [Int.toNat_natCast] at *)
      (refine KO_fn rfl rfl rfl rfl rfl ((seats_ok S.wf (tb l2 i) ((Hu.ext w1 S.ext).tab i (by omega))).mono ?_); rintro _ h ⟨rfl, x⟩) <;> (replace S := S.join0 x; clear x; (first | refine off ?_ | refine mv ?_); (first | refine off ?_ | (first | refine cT ?_ | refine cF ?_ | (refine cS ?_ ?_ <;> intro hc))) <;> (refine vl ?_; refine KO_nil ?_))
      all_goals (repeat' (first | refine K_seq ?_ | refine k_cond rfl ?_ | refine K_skip ?_ | refine K_exit ?_ | refine k_block ?_ | refine K_scope ?_ | (refine K_region (id := 14) ?_; refine mv ?_; refine KO_nil ?_) | (refine K_region (id := 15) ?_; (first | refine ad ?_ | refine vl ?_); refine mv ?_; refine KO_nil ?_)))
      refine ⟨i + 1, ?_, ?_, (by repeat (first | exact Ks.le_nil _ | refine Ks.le_cons rfl ?_ | refine Ks.le_int ?_))⟩
      · show l.length - (i + 1) < l.length - i; omega
      · exact ⟨S, by omega⟩
    · have e3 : seatsV (tb l i) = 0 := by unfold seatsV; rw [if_neg hc]
      (try simp only [Int.toNat_natCast] at *)
      (refine KO_fn rfl rfl rfl rfl rfl ((check_ok S.wf (tb l2 i) ((Hu.ext w1 S.ext).tab i (by omega))).mono ?_); rintro _ h ⟨rfl, x⟩) <;> (replace S := S.join0 x; clear x; refine mv ?_; (first | refine cT ?_ | refine cF ?_ | (refine cS ?_ ?_ <;> intro hc)) <;> (refine mv ?_; (first | refine off ?_ | refine mv ?_); (first | refine off ?_ | refine mv ?_); (first | refine off ?_ | (first | refine ixB S ?_ | refine ixS S rfl rfl ?_)); (first | refine off ?_ | (first | refine lB S rfl rfl ?_ | refine lES S rfl rfl ?_ | refine lEB S ?_ | refine lH S ?_)); (first | (refine off ?_; (first | refine off ?_ | refine mv ?_); (first | refine off ?_ | (first | refine cT ?_ | refine cF ?_ | (refine cS ?_ ?_ <;> intro hc))) <;> (refine vl ?_; refine KO_nil ?_)) | skip)))
      (try simp only [Int.toNat_natCast] at *)
      (refine KO_fn rfl rfl rfl rfl rfl ((seats_ok S.wf (tb l2 i) ((Hu.ext w1 S.ext).tab i (by omega))).mono ?_); rintro _ h ⟨rfl, x⟩) <;> (replace S := S.join0 x; clear x; (first | refine off ?_ | refine mv ?_); (first | refine off ?_ | (first | refine cT ?_ | refine cF ?_ | (refine cS ?_ ?_ <;> intro hc))) <;> (refine vl ?_; refine KO_nil ?_))
      all_goals (repeat' (first | refine K_seq ?_ | refine k_cond rfl ?_ | refine K_skip ?_ | refine K_exit ?_ | refine k_block ?_ | refine K_scope ?_ | (refine K_region (id := 14) ?_; refine mv ?_; refine KO_nil ?_) | (refine K_region (id := 15) ?_; (first | refine ad ?_ | refine vl ?_); refine mv ?_; refine KO_nil ?_)))
      refine ⟨i + 1, ?_, ?_, (by repeat (first | exact Ks.le_nil _ | refine Ks.le_cons rfl ?_ | refine Ks.le_int ?_))⟩
      · show l.length - (i + 1) < l.length - i; omega
      · exact ⟨S, by omega⟩
  · have hv : ValidL l := hk2.valid.1 (by assumption)
    have hC : countV l = sumT l l.length := by unfold countV; rw [if_pos hv]
    (refine KO_fn rfl rfl rfl rfl rfl ((refSeats_ok S.wf v l (H1.ext w1 S.ext)).mono ?_); rintro so h ⟨out, ho, x⟩) <;> (replace S := S.join1 x; clear x; have ho1 := ho.1; (first | refine lnB S ?_ | refine lnS S rfl rfl ?_); refine mv ?_; refine KO_nil ?_)
    all_goals (repeat' (first | refine K_seq ?_ | refine k_cond rfl ?_ | refine K_skip ?_ | refine K_exit ?_ | refine k_block ?_ | refine K_scope ?_ | (refine K_region (id := 19) ?_; refine mv ?_; (first | refine cT ?_ | refine cF ?_ | (refine cS ?_ ?_ <;> intro hc)) <;> (refine mv ?_; (first | refine off ?_ | refine mv ?_); (first | refine off ?_ | refine mv ?_); (first | refine off ?_ | (first | refine lnB S ?_ | refine lnS S rfl rfl ?_)); (first | refine off ?_ | (first | refine cT ?_ | refine cF ?_ | (refine cS ?_ ?_ <;> intro hc))) <;> (refine vl ?_; refine KO_nil ?_))) | (refine K_region (id := 20) ?_; refine mv ?_; refine mv ?_) | (refine K_region (id := 21) ?_; refine mv ?_; (first | refine lnB S ?_ | refine lnS S rfl rfl ?_); refine mv ?_; refine KO_nil ?_)))
    · have hF : firstV l t = sumT l t.toNat := by unfold firstV; rw [if_pos ⟨by omega, by omega, hv⟩]
      (refine KO_fn rfl rfl rfl rfl rfl ((refFirstI_ok S.wf v l (H1.ext w1 S.ext) t (by omega) (by omega)).mono ?_); rintro _ h ⟨rfl, x⟩) <;> (replace S := S.join0 x; clear x; refine mv ?_; refine KO_nil ?_)
      all_goals (repeat' (first | refine K_seq ?_ | refine k_cond rfl ?_ | refine K_skip ?_ | refine K_exit ?_ | refine k_block ?_ | refine K_scope ?_ | (refine K_region (id := 21) ?_; refine mv ?_; (first | refine lnB S ?_ | refine lnS S rfl rfl ?_); refine mv ?_; refine KO_nil ?_)))
      refine k_loop (σ := Nat × Int × Bool) (fun (i, a, fd) h' => Hs g h' [] ∧ i ≤ l.length ∧ ((fd = false ∧ a = 0 ∧ ∀ j, j < i → ¬ (tb l j).name = nm) ∨ (fd = true ∧ ∃ k : Nat, k < i ∧ a = k ∧ (tb l k).name = nm))) (fun (i, a, fd) => l.length - i) (fun (i, a, fd) => [(0, v), (1, str nm), (2, .int .i64 t), (7, u), (15, .int .i64 (firstV l t)), (16, .int .i64 (countV l)), (17, .int .i64 a), (18, .bool fd), (92, v), (93, .int .i64 l.length), (94, .int .i64 i)]) (0, 0, false) (by repeat (first | exact Ks.le_nil _ | refine Ks.le_cons rfl ?_ | refine Ks.le_int ?_)) ?_ ?_
      · exact ⟨S.drop, Nat.zero_le _, .inl ⟨rfl, rfl, fun j hj => absurd hj (Nat.not_lt_zero _)⟩⟩
      clear S
      rintro ⟨i, a, fd⟩ h ⟨S, h1, hfin⟩
      all_goals (repeat' (first | refine K_seq ?_ | refine k_cond rfl ?_ | refine K_skip ?_ | refine K_exit ?_ | refine k_block ?_ | refine K_scope ?_ | (refine K_region (id := 22) ?_; (first | refine cT ?_ | refine cF ?_ | (refine cS ?_ ?_ <;> intro hc)) <;> (refine KO_nil ?_)) | (refine K_region (id := 23) ?_; refine mv ?_; refine mv ?_; refine KO_nil ?_) | (refine K_region (id := 24) ?_; refine mv ?_; refine mv ?_; (first | refine ixB S ?_ | refine ixS S rfl rfl ?_); (first | refine vl ?_ | refine fB S ?_ | refine fS S rfl rfl ?_ | refine fA ?_); (first | refine lB S rfl rfl ?_ | refine lES S rfl rfl ?_ | refine lEB S ?_ | refine lH S ?_); refine mv ?_; (refine tS ?_ ?_ <;> intro hc) <;> (refine KO_nil ?_)) | (refine K_region (id := 25) ?_; refine mv ?_; refine mv ?_; refine mv ?_; refine KO_nil ?_) | (refine K_region (id := 26) ?_; (first | refine ad ?_ | refine vl ?_); refine mv ?_; refine KO_nil ?_) | (refine K_region (id := 27) ?_; refine mv ?_; refine mv ?_)))
      · (try simp only [Int.toNat_natCast] at *)
        refine ⟨(i + 1, (i : Int), true), ?_, ?_, (by repeat (first | exact Ks.le_nil _ | refine Ks.le_cons rfl ?_ | refine Ks.le_int ?_))⟩
        · show l.length - (i + 1) < l.length - i; omega
        · refine ⟨S, by omega, .inr ⟨rfl, i, by omega, rfl, by assumption⟩⟩
      · (try simp only [Int.toNat_natCast] at *)
        refine ⟨(i + 1, a, fd), ?_, ?_, (by repeat (first | exact Ks.le_nil _ | refine Ks.le_cons rfl ?_ | refine Ks.le_int ?_))⟩
        · show l.length - (i + 1) < l.length - i; omega
        · refine ⟨S, by omega, ?_⟩
          rcases hfin with ⟨q1, q2, q3⟩ | ⟨q1, k, q2, q3, q4⟩
          · refine .inl ⟨q1, q2, fun j hj => ?_⟩
            rcases Nat.lt_or_ge j i with q | q
            · exact q3 j q
            · obtain rfl : j = i := by omega
              assumption
          · exact .inr ⟨q1, k, by omega, q3, q4⟩
      have fin : ∀ k2 f2, FindR l nm k2 f2 → k2 = a ∧ f2 = fd := by
        rintro k2 f2 (⟨e2, k, e1, g1, g2, g3, g4⟩ | ⟨e2, e1, g1⟩)
        · rcases hfin with ⟨q1, q2, q3⟩ | ⟨q1, k, q2, q3, q4⟩
          · exact absurd g3 (q3 _ (by omega))
          · have := hv.one (by omega) g2 (q4.trans g3.symm)
            exact ⟨by omega, by rw [e2, q1]⟩
        · rcases hfin with ⟨q1, q2, q3⟩ | ⟨q1, k, q2, q3, q4⟩
          · exact ⟨by omega, by rw [e2, q1]⟩
          · rcases g1 with g1 | g1
            · exact absurd hv g1
            · exact absurd q4 (g1 k (by omega))
      (refine KO_fn rfl rfl rfl rfl rfl ((find2_ok S.wf u l2 (Hu.ext w1 S.ext) nm).mono ?_); rintro _ h ⟨k2, f2, rfl, hfi, x⟩) <;> (replace S := S.join0 x; clear x; obtain ⟨rfl, rfl⟩ := fin _ _ (sa.findR hfi); refine mv ?_; refine vl ?_; refine vl ?_; refine mv ?_; refine mv ?_; refine KO_nil ?_)
      all_goals (repeat' (first | refine K_seq ?_ | refine k_cond rfl ?_ | refine K_skip ?_ | refine K_exit ?_ | refine k_block ?_ | refine K_scope ?_ | (refine K_region (id := 28) ?_; refine mv ?_)))
      have hCC := sa.count
      have hFF := sa.first t
      (refine KO_fn rfl rfl rfl rfl rfl ((count_ok S.wf u l2 (Hu.ext w1 S.ext)).mono ?_); rintro _ h ⟨rfl, x⟩) <;> (replace S := S.join0 x; clear x; refine mv ?_; (first | refine cT ?_ | refine cF ?_ | (refine cS ?_ ?_ <;> intro hc)) <;> (refine mv ?_; (first | refine off ?_ | refine mv ?_); (first | refine off ?_ | refine mv ?_); (first | (refine off ?_; (first | refine off ?_ | refine mv ?_); (first | refine off ?_ | (first | refine cT ?_ | refine cF ?_ | (refine cS ?_ ?_ <;> intro hc))) <;> (refine vl ?_; refine mv ?_; (first | refine off ?_ | refine mv ?_); (first | refine off ?_ | refine mv ?_); (first | refine off ?_ | (first | refine cT ?_ | refine cF ?_ | (refine cS ?_ ?_ <;> intro hc))) <;> (refine vl ?_; refine mv ?_; (first | refine off ?_ | refine mv ?_); (first | refine off ?_ | refine mv ?_); (first | refine off ?_ | (first | refine bT ?_ | refine vl ?_)); refine vl ?_; refine mv ?_; (first | refine off ?_ | refine mv ?_); (first | refine off ?_ | refine mv ?_); (first | (refine off ?_; refine vl ?_; refine mv ?_; refine KO_nil ?_) | skip)))) | skip)))
      (refine KO_fn rfl rfl rfl rfl rfl ((first_ok S.wf u l2 (Hu.ext w1 S.ext) t).mono ?_); rintro _ h ⟨rfl, x⟩) <;> (replace S := S.join0 x; clear x; (first | refine off ?_ | refine mv ?_); (first | refine off ?_ | (first | refine cT ?_ | refine cF ?_ | (refine cS ?_ ?_ <;> intro hc))) <;> (refine vl ?_; refine mv ?_; (first | refine off ?_ | refine mv ?_); (first | refine off ?_ | refine mv ?_); (first | refine off ?_ | (first | refine cT ?_ | refine cF ?_ | (refine cS ?_ ?_ <;> intro hc))) <;> (refine vl ?_; refine mv ?_; (first | refine off ?_ | refine mv ?_); (first | refine off ?_ | refine mv ?_); (first | refine off ?_ | (first | refine bT ?_ | refine vl ?_)); refine vl ?_; refine mv ?_; (first | refine off ?_ | refine mv ?_); (first | refine off ?_ | refine mv ?_); (first | (refine off ?_; refine vl ?_; refine mv ?_; refine KO_nil ?_) | skip))))
      (refine KO_fn rfl rfl rfl rfl rfl ((same_ok S.wf u v l2 l (Hu.ext w1 S.ext).rd (H1.ext w1 S.ext).rd (Hu.ext w1 S.ext).tab (H1.ext w1 S.ext).tab (by omega) (by omega)).mono ?_); rintro _ h ⟨⟨rfl, hq⟩ | ⟨rfl, hq⟩, x⟩) <;> (replace S := S.join0 x; clear x; refine vl ?_; refine mv ?_; refine KO_nil ?_)
      all_goals (repeat' (first | refine K_seq ?_ | refine k_cond rfl ?_ | refine K_skip ?_ | refine K_exit ?_ | refine k_block ?_ | refine K_scope ?_))
      all_goals (refine K_ret ⟨_, rfl, ?_⟩)
      · exact ⟨rfl, T.join0 S.drop⟩
      · exact absurd sa hq
    · have hF : firstV l t = 0 := by unfold firstV; rw [if_neg (by omega)]
      refine k_loop (σ := Nat × Int × Bool) (fun (i, a, fd) h' => Hs g h' [] ∧ i ≤ l.length ∧ ((fd = false ∧ a = 0 ∧ ∀ j, j < i → ¬ (tb l j).name = nm) ∨ (fd = true ∧ ∃ k : Nat, k < i ∧ a = k ∧ (tb l k).name = nm))) (fun (i, a, fd) => l.length - i) (fun (i, a, fd) => [(0, v), (1, str nm), (2, .int .i64 t), (7, u), (15, .int .i64 (firstV l t)), (16, .int .i64 (countV l)), (17, .int .i64 a), (18, .bool fd), (92, v), (93, .int .i64 l.length), (94, .int .i64 i)]) (0, 0, false) (by repeat (first | exact Ks.le_nil _ | refine Ks.le_cons rfl ?_ | refine Ks.le_int ?_)) ?_ ?_
      · exact ⟨S.drop, Nat.zero_le _, .inl ⟨rfl, rfl, fun j hj => absurd hj (Nat.not_lt_zero _)⟩⟩
      clear S
      rintro ⟨i, a, fd⟩ h ⟨S, h1, hfin⟩
      all_goals (repeat' (first | refine K_seq ?_ | refine k_cond rfl ?_ | refine K_skip ?_ | refine K_exit ?_ | refine k_block ?_ | refine K_scope ?_ | (refine K_region (id := 22) ?_; (first | refine cT ?_ | refine cF ?_ | (refine cS ?_ ?_ <;> intro hc)) <;> (refine KO_nil ?_)) | (refine K_region (id := 23) ?_; refine mv ?_; refine mv ?_; refine KO_nil ?_) | (refine K_region (id := 24) ?_; refine mv ?_; refine mv ?_; (first | refine ixB S ?_ | refine ixS S rfl rfl ?_); (first | refine vl ?_ | refine fB S ?_ | refine fS S rfl rfl ?_ | refine fA ?_); (first | refine lB S rfl rfl ?_ | refine lES S rfl rfl ?_ | refine lEB S ?_ | refine lH S ?_); refine mv ?_; (refine tS ?_ ?_ <;> intro hc) <;> (refine KO_nil ?_)) | (refine K_region (id := 25) ?_; refine mv ?_; refine mv ?_; refine mv ?_; refine KO_nil ?_) | (refine K_region (id := 26) ?_; (first | refine ad ?_ | refine vl ?_); refine mv ?_; refine KO_nil ?_) | (refine K_region (id := 27) ?_; refine mv ?_; refine mv ?_)))
      · (try simp only [Int.toNat_natCast] at *)
        refine ⟨(i + 1, (i : Int), true), ?_, ?_, (by repeat (first | exact Ks.le_nil _ | refine Ks.le_cons rfl ?_ | refine Ks.le_int ?_))⟩
        · show l.length - (i + 1) < l.length - i; omega
        · refine ⟨S, by omega, .inr ⟨rfl, i, by omega, rfl, by assumption⟩⟩
      · (try simp only [Int.toNat_natCast] at *)
        refine ⟨(i + 1, a, fd), ?_, ?_, (by repeat (first | exact Ks.le_nil _ | refine Ks.le_cons rfl ?_ | refine Ks.le_int ?_))⟩
        · show l.length - (i + 1) < l.length - i; omega
        · refine ⟨S, by omega, ?_⟩
          rcases hfin with ⟨q1, q2, q3⟩ | ⟨q1, k, q2, q3, q4⟩
          · refine .inl ⟨q1, q2, fun j hj => ?_⟩
            rcases Nat.lt_or_ge j i with q | q
            · exact q3 j q
            · obtain rfl : j = i := by omega
              assumption
          · exact .inr ⟨q1, k, by omega, q3, q4⟩
      have fin : ∀ k2 f2, FindR l nm k2 f2 → k2 = a ∧ f2 = fd := by
        rintro k2 f2 (⟨e2, k, e1, g1, g2, g3, g4⟩ | ⟨e2, e1, g1⟩)
        · rcases hfin with ⟨q1, q2, q3⟩ | ⟨q1, k, q2, q3, q4⟩
          · exact absurd g3 (q3 _ (by omega))
          · have := hv.one (by omega) g2 (q4.trans g3.symm)
            exact ⟨by omega, by rw [e2, q1]⟩
        · rcases hfin with ⟨q1, q2, q3⟩ | ⟨q1, k, q2, q3, q4⟩
          · exact ⟨by omega, by rw [e2, q1]⟩
          · rcases g1 with g1 | g1
            · exact absurd hv g1
            · exact absurd q4 (g1 k (by omega))
      (refine KO_fn rfl rfl rfl rfl rfl ((find2_ok S.wf u l2 (Hu.ext w1 S.ext) nm).mono ?_); rintro _ h ⟨k2, f2, rfl, hfi, x⟩) <;> (replace S := S.join0 x; clear x; obtain ⟨rfl, rfl⟩ := fin _ _ (sa.findR hfi); refine mv ?_; refine vl ?_; refine vl ?_; refine mv ?_; refine mv ?_; refine KO_nil ?_)
      all_goals (repeat' (first | refine K_seq ?_ | refine k_cond rfl ?_ | refine K_skip ?_ | refine K_exit ?_ | refine k_block ?_ | refine K_scope ?_ | (refine K_region (id := 28) ?_; refine mv ?_)))
      have hCC := sa.count
      have hFF := sa.first t
      (refine KO_fn rfl rfl rfl rfl rfl ((count_ok S.wf u l2 (Hu.ext w1 S.ext)).mono ?_); rintro _ h ⟨rfl, x⟩) <;> (replace S := S.join0 x; clear x; refine mv ?_; (first | refine cT ?_ | refine cF ?_ | (refine cS ?_ ?_ <;> intro hc)) <;> (refine mv ?_; (first | refine off ?_ | refine mv ?_); (first | refine off ?_ | refine mv ?_); (first | (refine off ?_; (first | refine off ?_ | refine mv ?_); (first | refine off ?_ | (first | refine cT ?_ | refine cF ?_ | (refine cS ?_ ?_ <;> intro hc))) <;> (refine vl ?_; refine mv ?_; (first | refine off ?_ | refine mv ?_); (first | refine off ?_ | refine mv ?_); (first | refine off ?_ | (first | refine cT ?_ | refine cF ?_ | (refine cS ?_ ?_ <;> intro hc))) <;> (refine vl ?_; refine mv ?_; (first | refine off ?_ | refine mv ?_); (first | refine off ?_ | refine mv ?_); (first | refine off ?_ | (first | refine bT ?_ | refine vl ?_)); refine vl ?_; refine mv ?_; (first | refine off ?_ | refine mv ?_); (first | refine off ?_ | refine mv ?_); (first | (refine off ?_; refine vl ?_; refine mv ?_; refine KO_nil ?_) | skip)))) | skip)))
      (refine KO_fn rfl rfl rfl rfl rfl ((first_ok S.wf u l2 (Hu.ext w1 S.ext) t).mono ?_); rintro _ h ⟨rfl, x⟩) <;> (replace S := S.join0 x; clear x; (first | refine off ?_ | refine mv ?_); (first | refine off ?_ | (first | refine cT ?_ | refine cF ?_ | (refine cS ?_ ?_ <;> intro hc))) <;> (refine vl ?_; refine mv ?_; (first | refine off ?_ | refine mv ?_); (first | refine off ?_ | refine mv ?_); (first | refine off ?_ | (first | refine cT ?_ | refine cF ?_ | (refine cS ?_ ?_ <;> intro hc))) <;> (refine vl ?_; refine mv ?_; (first | refine off ?_ | refine mv ?_); (first | refine off ?_ | refine mv ?_); (first | refine off ?_ | (first | refine bT ?_ | refine vl ?_)); refine vl ?_; refine mv ?_; (first | refine off ?_ | refine mv ?_); (first | refine off ?_ | refine mv ?_); (first | (refine off ?_; refine vl ?_; refine mv ?_; refine KO_nil ?_) | skip))))
      (refine KO_fn rfl rfl rfl rfl rfl ((same_ok S.wf u v l2 l (Hu.ext w1 S.ext).rd (H1.ext w1 S.ext).rd (Hu.ext w1 S.ext).tab (H1.ext w1 S.ext).tab (by omega) (by omega)).mono ?_); rintro _ h ⟨⟨rfl, hq⟩ | ⟨rfl, hq⟩, x⟩) <;> (replace S := S.join0 x; clear x; refine vl ?_; refine mv ?_; refine KO_nil ?_)
      all_goals (repeat' (first | refine K_seq ?_ | refine k_cond rfl ?_ | refine K_skip ?_ | refine K_exit ?_ | refine k_block ?_ | refine K_scope ?_))
      all_goals (refine K_ret ⟨_, rfl, ?_⟩)
      · exact ⟨rfl, T.join0 S.drop⟩
      · exact absurd sa hq
    · have hF : firstV l t = 0 := by unfold firstV; rw [if_neg (by omega)]
      refine k_loop (σ := Nat × Int × Bool) (fun (i, a, fd) h' => Hs g h' [] ∧ i ≤ l.length ∧ ((fd = false ∧ a = 0 ∧ ∀ j, j < i → ¬ (tb l j).name = nm) ∨ (fd = true ∧ ∃ k : Nat, k < i ∧ a = k ∧ (tb l k).name = nm))) (fun (i, a, fd) => l.length - i) (fun (i, a, fd) => [(0, v), (1, str nm), (2, .int .i64 t), (7, u), (15, .int .i64 (firstV l t)), (16, .int .i64 (countV l)), (17, .int .i64 a), (18, .bool fd), (92, v), (93, .int .i64 l.length), (94, .int .i64 i)]) (0, 0, false) (by repeat (first | exact Ks.le_nil _ | refine Ks.le_cons rfl ?_ | refine Ks.le_int ?_)) ?_ ?_
      · exact ⟨S.drop, Nat.zero_le _, .inl ⟨rfl, rfl, fun j hj => absurd hj (Nat.not_lt_zero _)⟩⟩
      clear S
      rintro ⟨i, a, fd⟩ h ⟨S, h1, hfin⟩
      all_goals (repeat' (first | refine K_seq ?_ | refine k_cond rfl ?_ | refine K_skip ?_ | refine K_exit ?_ | refine k_block ?_ | refine K_scope ?_ | (refine K_region (id := 22) ?_; (first | refine cT ?_ | refine cF ?_ | (refine cS ?_ ?_ <;> intro hc)) <;> (refine KO_nil ?_)) | (refine K_region (id := 23) ?_; refine mv ?_; refine mv ?_; refine KO_nil ?_) | (refine K_region (id := 24) ?_; refine mv ?_; refine mv ?_; (first | refine ixB S ?_ | refine ixS S rfl rfl ?_); (first | refine vl ?_ | refine fB S ?_ | refine fS S rfl rfl ?_ | refine fA ?_); (first | refine lB S rfl rfl ?_ | refine lES S rfl rfl ?_ | refine lEB S ?_ | refine lH S ?_); refine mv ?_; (refine tS ?_ ?_ <;> intro hc) <;> (refine KO_nil ?_)) | (refine K_region (id := 25) ?_; refine mv ?_; refine mv ?_; refine mv ?_; refine KO_nil ?_) | (refine K_region (id := 26) ?_; (first | refine ad ?_ | refine vl ?_); refine mv ?_; refine KO_nil ?_) | (refine K_region (id := 27) ?_; refine mv ?_; refine mv ?_)))
      · (try simp only [Int.toNat_natCast] at *)
        refine ⟨(i + 1, (i : Int), true), ?_, ?_, (by repeat (first | exact Ks.le_nil _ | refine Ks.le_cons rfl ?_ | refine Ks.le_int ?_))⟩
        · show l.length - (i + 1) < l.length - i; omega
        · refine ⟨S, by omega, .inr ⟨rfl, i, by omega, rfl, by assumption⟩⟩
      · (try simp only [Int.toNat_natCast] at *)
        refine ⟨(i + 1, a, fd), ?_, ?_, (by repeat (first | exact Ks.le_nil _ | refine Ks.le_cons rfl ?_ | refine Ks.le_int ?_))⟩
        · show l.length - (i + 1) < l.length - i; omega
        · refine ⟨S, by omega, ?_⟩
          rcases hfin with ⟨q1, q2, q3⟩ | ⟨q1, k, q2, q3, q4⟩
          · refine .inl ⟨q1, q2, fun j hj => ?_⟩
            rcases Nat.lt_or_ge j i with q | q
            · exact q3 j q
            · obtain rfl : j = i := by omega
              assumption
          · exact .inr ⟨q1, k, by omega, q3, q4⟩
      have fin : ∀ k2 f2, FindR l nm k2 f2 → k2 = a ∧ f2 = fd := by
        rintro k2 f2 (⟨e2, k, e1, g1, g2, g3, g4⟩ | ⟨e2, e1, g1⟩)
        · rcases hfin with ⟨q1, q2, q3⟩ | ⟨q1, k, q2, q3, q4⟩
          · exact absurd g3 (q3 _ (by omega))
          · have := hv.one (by omega) g2 (q4.trans g3.symm)
            exact ⟨by omega, by rw [e2, q1]⟩
        · rcases hfin with ⟨q1, q2, q3⟩ | ⟨q1, k, q2, q3, q4⟩
          · exact ⟨by omega, by rw [e2, q1]⟩
          · rcases g1 with g1 | g1
            · exact absurd hv g1
            · exact absurd q4 (g1 k (by omega))
      (refine KO_fn rfl rfl rfl rfl rfl ((find2_ok S.wf u l2 (Hu.ext w1 S.ext) nm).mono ?_); rintro _ h ⟨k2, f2, rfl, hfi, x⟩) <;> (replace S := S.join0 x; clear x; obtain ⟨rfl, rfl⟩ := fin _ _ (sa.findR hfi); refine mv ?_; refine vl ?_; refine vl ?_; refine mv ?_; refine mv ?_; refine KO_nil ?_)
      all_goals (repeat' (first | refine K_seq ?_ | refine k_cond rfl ?_ | refine K_skip ?_ | refine K_exit ?_ | refine k_block ?_ | refine K_scope ?_ | (refine K_region (id := 28) ?_; refine mv ?_)))
      have hCC := sa.count
      have hFF := sa.first t
      (refine KO_fn rfl rfl rfl rfl rfl ((count_ok S.wf u l2 (Hu.ext w1 S.ext)).mono ?_); rintro _ h ⟨rfl, x⟩) <;> (replace S := S.join0 x; clear x; refine mv ?_; (first | refine cT ?_ | refine cF ?_ | (refine cS ?_ ?_ <;> intro hc)) <;> (refine mv ?_; (first | refine off ?_ | refine mv ?_); (first | refine off ?_ | refine mv ?_); (first | (refine off ?_; (first | refine off ?_ | refine mv ?_); (first | refine off ?_ | (first | refine cT ?_ | refine cF ?_ | (refine cS ?_ ?_ <;> intro hc))) <;> (refine vl ?_; refine mv ?_; (first | refine off ?_ | refine mv ?_); (first | refine off ?_ | refine mv ?_); (first | refine off ?_ | (first | refine cT ?_ | refine cF ?_ | (refine cS ?_ ?_ <;> intro hc))) <;> (refine vl ?_; refine mv ?_; (first | refine off ?_ | refine mv ?_); (first | refine off ?_ | refine mv ?_); (first | refine off ?_ | (first | refine bT ?_ | refine vl ?_)); refine vl ?_; refine mv ?_; (first | refine off ?_ | refine mv ?_); (first | refine off ?_ | refine mv ?_); (first | (refine off ?_; refine vl ?_; refine mv ?_; refine KO_nil ?_) | skip)))) | skip)))
      (refine KO_fn rfl rfl rfl rfl rfl ((first_ok S.wf u l2 (Hu.ext w1 S.ext) t).mono ?_); rintro _ h ⟨rfl, x⟩) <;> (replace S := S.join0 x; clear x; (first | refine off ?_ | refine mv ?_); (first | refine off ?_ | (first | refine cT ?_ | refine cF ?_ | (refine cS ?_ ?_ <;> intro hc))) <;> (refine vl ?_; refine mv ?_; (first | refine off ?_ | refine mv ?_); (first | refine off ?_ | refine mv ?_); (first | refine off ?_ | (first | refine cT ?_ | refine cF ?_ | (refine cS ?_ ?_ <;> intro hc))) <;> (refine vl ?_; refine mv ?_; (first | refine off ?_ | refine mv ?_); (first | refine off ?_ | refine mv ?_); (first | refine off ?_ | (first | refine bT ?_ | refine vl ?_)); refine vl ?_; refine mv ?_; (first | refine off ?_ | refine mv ?_); (first | refine off ?_ | refine mv ?_); (first | (refine off ?_; refine vl ?_; refine mv ?_; refine KO_nil ?_) | skip))))
      (refine KO_fn rfl rfl rfl rfl rfl ((same_ok S.wf u v l2 l (Hu.ext w1 S.ext).rd (H1.ext w1 S.ext).rd (Hu.ext w1 S.ext).tab (H1.ext w1 S.ext).tab (by omega) (by omega)).mono ?_); rintro _ h ⟨⟨rfl, hq⟩ | ⟨rfl, hq⟩, x⟩) <;> (replace S := S.join0 x; clear x; refine vl ?_; refine mv ?_; refine KO_nil ?_)
      all_goals (repeat' (first | refine K_seq ?_ | refine k_cond rfl ?_ | refine K_skip ?_ | refine K_exit ?_ | refine k_block ?_ | refine K_scope ?_))
      all_goals (refine K_ret ⟨_, rfl, ?_⟩)
      · exact ⟨rfl, T.join0 S.drop⟩
      · exact absurd sa hq
  · have hv : ¬ ValidL l := fun q => absurd (hk2.valid.2 q) (by assumption)
    have hC : countV l = 0 := by unfold countV; rw [if_neg hv]
    have hF : firstV l t = 0 := by unfold firstV; rw [if_neg (fun q => hv q.2.2)]
    have fin : ∀ k2 f2, FindR l nm k2 f2 → k2 = 0 ∧ f2 = false := by
      rintro k2 f2 (⟨e2, k, e1, g1, g2, g3, g4⟩ | ⟨e2, e1, g1⟩)
      · exact absurd g1 hv
      · exact ⟨e1, e2⟩
    (refine KO_fn rfl rfl rfl rfl rfl ((find2_ok S.wf u l2 (Hu.ext w1 S.ext) nm).mono ?_); rintro _ h ⟨k2, f2, rfl, hfi, x⟩) <;> (replace S := S.join0 x; clear x; obtain ⟨rfl, rfl⟩ := fin _ _ (sa.findR hfi); refine mv ?_; refine vl ?_; refine vl ?_; refine mv ?_; refine mv ?_; refine KO_nil ?_)
    all_goals (repeat' (first | refine K_seq ?_ | refine k_cond rfl ?_ | refine K_skip ?_ | refine K_exit ?_ | refine k_block ?_ | refine K_scope ?_ | (refine K_region (id := 28) ?_; refine mv ?_)))
    have hCC := sa.count
    have hFF := sa.first t
    (refine KO_fn rfl rfl rfl rfl rfl ((count_ok S.wf u l2 (Hu.ext w1 S.ext)).mono ?_); rintro _ h ⟨rfl, x⟩) <;> (replace S := S.join0 x; clear x; refine mv ?_; (first | refine cT ?_ | refine cF ?_ | (refine cS ?_ ?_ <;> intro hc)) <;> (refine mv ?_; (first | refine off ?_ | refine mv ?_); (first | refine off ?_ | refine mv ?_); (first | (refine off ?_; (first | refine off ?_ | refine mv ?_); (first | refine off ?_ | (first | refine cT ?_ | refine cF ?_ | (refine cS ?_ ?_ <;> intro hc))) <;> (refine vl ?_; refine mv ?_; (first | refine off ?_ | refine mv ?_); (first | refine off ?_ | refine mv ?_); (first | refine off ?_ | (first | refine cT ?_ | refine cF ?_ | (refine cS ?_ ?_ <;> intro hc))) <;> (refine vl ?_; refine mv ?_; (first | refine off ?_ | refine mv ?_); (first | refine off ?_ | refine mv ?_); (first | refine off ?_ | (first | refine bT ?_ | refine vl ?_)); refine vl ?_; refine mv ?_; (first | refine off ?_ | refine mv ?_); (first | refine off ?_ | refine mv ?_); (first | (refine off ?_; refine vl ?_; refine mv ?_; refine KO_nil ?_) | skip)))) | skip)))
    (refine KO_fn rfl rfl rfl rfl rfl ((first_ok S.wf u l2 (Hu.ext w1 S.ext) t).mono ?_); rintro _ h ⟨rfl, x⟩) <;> (replace S := S.join0 x; clear x; (first | refine off ?_ | refine mv ?_); (first | refine off ?_ | (first | refine cT ?_ | refine cF ?_ | (refine cS ?_ ?_ <;> intro hc))) <;> (refine vl ?_; refine mv ?_; (first | refine off ?_ | refine mv ?_); (first | refine off ?_ | refine mv ?_); (first | refine off ?_ | (first | refine cT ?_ | refine cF ?_ | (refine cS ?_ ?_ <;> intro hc))) <;> (refine vl ?_; refine mv ?_; (first | refine off ?_ | refine mv ?_); (first | refine off ?_ | refine mv ?_); (first | refine off ?_ | (first | refine bT ?_ | refine vl ?_)); refine vl ?_; refine mv ?_; (first | refine off ?_ | refine mv ?_); (first | refine off ?_ | refine mv ?_); (first | (refine off ?_; refine vl ?_; refine mv ?_; refine KO_nil ?_) | skip))))
    (refine KO_fn rfl rfl rfl rfl rfl ((same_ok S.wf u v l2 l (Hu.ext w1 S.ext).rd (H1.ext w1 S.ext).rd (Hu.ext w1 S.ext).tab (H1.ext w1 S.ext).tab (by omega) (by omega)).mono ?_); rintro _ h ⟨⟨rfl, hq⟩ | ⟨rfl, hq⟩, x⟩) <;> (replace S := S.join0 x; clear x; refine vl ?_; refine mv ?_; refine KO_nil ?_)
    all_goals (repeat' (first | refine K_seq ?_ | refine k_cond rfl ?_ | refine K_skip ?_ | refine K_exit ?_ | refine k_block ?_ | refine K_scope ?_))
    all_goals (refine K_ret ⟨_, rfl, ?_⟩)
    · exact ⟨rfl, T.join0 S.drop⟩
    · exact absurd sa hq

end Go.Proofs.Xx

/-
  HallChecks: for the row.
-/
namespace Go.Proofs.Xx
open Go Go.Proofs
set_option linter.unusedSimpArgs false
set_option linter.unusedVariables false
set_option maxRecDepth 100000

theorem HallA.few {h : AH} {v : Value} {l : List Tab} (A : HallA h v l) (f : FewP l) : HallR h v l :=
  ⟨A.rd, fun i hi => ⟨(A.tab i hi).rd, by have := f.2 i hi; omega, by have := f.2 i hi; omega⟩, by have := f.1; omega, A.cap⟩
theorem fewA_ok {h0 : AH} (w : WfH h0) (v : Value) (l : List Tab) (A : HallA h0 v l) : Fn Tryz.prog Xh 19 [v] h0 (fun r h' => BoolIs r (FewP l) ∧ Hs h0 h' []) :=
  few_ok w v l A.rd A.len fun i hi => ⟨(A.tab i hi).rd, (A.tab i hi).name, (A.tab i hi).opn⟩
theorem hallChecks_true {h0 : AH} (w : WfH h0) (v : Value) (l : List Tab) (A : HallA h0 v l) (nm : List UInt8) (t : Int) : Fn Tryz.prog Xh 5 [v, str nm, .int .i64 t] h0 (fun x _ => x = .bool true) := by
  have S := Hs.start w
  refine Fn_K rfl Tryz.func5 rfl rfl ?_
  all_goals (repeat' (first | refine K_seq ?_ | refine k_cond rfl ?_ | refine K_skip ?_ | refine K_exit ?_ | refine k_block ?_ | refine K_scope ?_ | (refine K_region (id := 0) ?_; refine mv ?_; refine KO_nil ?_) | (refine K_region (id := 1) ?_; refine mv ?_)))
  (refine KO_fn rfl rfl rfl rfl rfl ((fewA_ok S.wf v l A).mono ?_); rintro _ h ⟨⟨rfl, hq⟩ | ⟨rfl, hq⟩, x⟩) <;> (replace S := S.join0 x; clear x; refine vl ?_; refine mv ?_; (first | refine off ?_ | refine mv ?_); (first | refine off ?_ | refine tl ?_); (first | refine off ?_ | (first | refine cT ?_ | refine cF ?_ | (refine cS ?_ ?_ <;> intro hc))) <;> (refine vl ?_; refine mv ?_; (first | refine off ?_ | refine mv ?_); (first | refine off ?_ | refine mv ?_); (first | refine off ?_ | refine mv ?_); (first | (refine off ?_; refine vl ?_; refine mv ?_; (first | (refine off ?_; refine vl ?_; refine mv ?_; refine KO_nil ?_) | skip)) | skip)))
  · (refine KO_fn rfl rfl rfl rfl rfl ((awake_ok).mono ?_); rintro _ h ⟨rfl, rfl⟩) <;> (refine vl ?_; refine mv ?_; refine KO_nil ?_)
    all_goals (repeat' (first | refine K_seq ?_ | refine k_cond rfl ?_ | refine K_skip ?_ | refine K_exit ?_ | refine k_block ?_ | refine K_scope ?_))
    refine K_ret ⟨_, rfl, ?_⟩
    rfl
  · (refine KO_fn rfl rfl rfl rfl rfl ((checks_ok S.wf v l ((A.few hq).ext w S.ext) nm t).mono ?_); rintro _ h ⟨rfl, x⟩) <;> (replace S := S.join0 x; clear x; refine vl ?_; refine mv ?_; (first | (refine off ?_; refine vl ?_; refine mv ?_; refine KO_nil ?_) | skip))
    (refine KO_fn rfl rfl rfl rfl rfl ((awake_ok).mono ?_); rintro _ h ⟨rfl, rfl⟩) <;> (refine vl ?_; refine mv ?_; refine KO_nil ?_)
    all_goals (repeat' (first | refine K_seq ?_ | refine k_cond rfl ?_ | refine K_skip ?_ | refine K_exit ?_ | refine k_block ?_ | refine K_scope ?_))
    refine K_ret ⟨_, rfl, ?_⟩
    rfl
  · (refine KO_fn rfl rfl rfl rfl rfl ((awake_ok).mono ?_); rintro _ h ⟨rfl, rfl⟩) <;> (refine vl ?_; refine mv ?_; refine KO_nil ?_)
    all_goals (repeat' (first | refine K_seq ?_ | refine k_cond rfl ?_ | refine K_skip ?_ | refine K_exit ?_ | refine k_block ?_ | refine K_scope ?_))
    refine K_ret ⟨_, rfl, ?_⟩
    rfl
theorem hallChecks_core (h : AH) (us : List Value) (w : WfH h) (a : ArgsR Tryz.prog h Tryz.f5.params.toList us) : Fn Tryz.prog Xh 5 us h (fun x _ => x = .bool true) := by
  rw [show Tryz.f5.params.toList = [27, 9, 3] by kernel_rfl] at a
  obtain ⟨n0, r0, us, rfl, a0, a⟩ := a.cons_inv
  obtain ⟨n1, r1, us, rfl, a1, a⟩ := a.cons_inv
  obtain ⟨n2, r2, us, rfl, a2, a⟩ := a.cons_inv
  obtain rfl := a.nil_inv
  obtain ⟨v, l, rfl, A⟩ := AR.hall1 a0
  obtain ⟨nm, rfl, -⟩ := a1.str1 (by kernel_rfl)
  obtain ⟨t, rfl, -⟩ := a2.int1 (k := .i64) (by kernel_rfl)
  exact hallChecks_true w v l A nm t
end Go.Proofs.Xx

/-
  What is known of the listed variables (nothing is asked of them here); a block of cells that is there in every world.
-/
namespace Go.Proofs.Xx
open Go Go.RowKit Go.Proofs
instance globAny : Glob := ⟨fun _ => True⟩
theorem Xh_none (f : FuncId) (h1 : f ≠ 21) (h2 : f ≠ 200) (us : List Value) (h : AH) : Xh f us h = none := by
  have e1 : Nat.beq f 21 = false := by rw [Bool.eq_false_iff]; intro q; exact h1 (Nat.eq_of_beq_eq_true q)
  have e2 : Nat.beq f 200 = false := by rw [Bool.eq_false_iff]; intro q; exact h2 (Nat.eq_of_beq_eq_true q)
  unfold Xh withKnown externNoEscape
  simp only [e1, e2]
theorem gDe : Tryz.prog.globalNamed "math/bits.deBruijn32tab" = some 2 := by kernel_rfl
theorem gDeType : (Tryz.prog.globals[2]?).map (·.type) = some 211 := by kernel_rfl
theorem cell_block {W : World} {b o : Nat} {v : Value} (h : W.cell? ⟨b, o, none⟩ = some v) : ∃ (k : Nat) (cc : Array Value) (el : TypeId) (fr : Nat × Nat), W.heap[k]? = some (.cells cc el fr) := by
  unfold World.cell? at h
  split at h
  · rename_i c e f hc; exact ⟨b, c, e, f, hc⟩
  · cases h
theorem cells_there {W : World} {rest : List (String × DataW Unit)} (h : laidMet Tryz.prog (("math/bits.deBruijn32tab", YtnopenpheaihmaaGreatDoor.Rows.laid_math_bits_deBruijn32tab) :: rest) W) :
    ∃ (k : Nat) (cc : Array Value) (el : TypeId) (fr : Nat × Nat), W.heap[k]? = some (.cells cc el fr) := by
  have t : Lib.TabIs Tryz.prog W "math/bits.deBruijn32tab" .u8 [0, 1, 28, 2, 29, 14, 24, 3, 30, 22, 20, 15, 25, 17, 4, 8, 31, 27, 13, 23, 21, 19, 16, 7, 26, 12, 18, 6, 11, 5, 10, 9] :=
    Lib.tabIs_of_head gDe gDeType (n := 32) (e := 5) (by kernel_rfl) (by kernel_rfl) (by kernel_rfl) (by kernel_rfl) h
  exact cell_block (t.cell gDe 0 (by decide))
end Go.Proofs.Xx
