/-
  HallChecks: its contract.
-/
import Derived.Test.YtnopenpheaihmaaGreatDoorM8
import Derived.Test.YtnopenpheaihmaaGreatDoorM10
import Derived.Test.YtnopenpheaihmaaGreatDoorM9

namespace Go.Proofs.Xx
open Go Go.Proofs
set_option linter.unusedSimpArgs false
set_option linter.unusedVariables false
set_option maxRecDepth 100000
set_option maxHeartbeats 1000000

section
variable {l2 l : List Tab}
theorem SameAll.all (s : SameAll l2 l) (i : Nat) : SameTab (tb l2 i) (tb l i) := by
  rcases Nat.lt_or_ge i l2.length with h | h
  · exact s.2 i h
  · have := s.1
    simp only [tb, List.getD_eq_getElem?_getD, List.getElem?_eq_none h, List.getElem?_eq_none (show l.length ≤ i by omega)]
    rfl
theorem SameAll.chk (s : SameAll l2 l) (i : Nat) : chk (tb l2 i) = chk (tb l i) := by have := s.all i; unfold SameTab at this; rw [this]; rfl
theorem SameAll.name (s : SameAll l2 l) (i : Nat) : (tb l2 i).name = (tb l i).name := by have := s.all i; unfold SameTab at this; rw [this]
theorem SameAll.size (s : SameAll l2 l) (i : Nat) : tsize (tb l2 i) = tsize (tb l i) := by have := s.all i; unfold SameTab at this; rw [this]; rfl
theorem SameAll.chkAll {i e : Int} (s : SameAll l2 l) (k : ChkAll l2 i e) : ChkAll l i e := by
  unfold ChkAll goodAt dupAt at k ⊢
  simp only [s.chk, s.name, s.1] at k
  exact k
theorem SameAll.valid (s : SameAll l2 l) : ValidL l2 ↔ ValidL l := by
  unfold ValidL goodAt dupAt
  simp only [s.chk, s.name, s.1]
theorem SameAll.sum (s : SameAll l2 l) : ∀ n, sumT l2 n = sumT l n
  | 0 => rfl
  | n + 1 => by simp only [sumT, s.sum n, s.size]
theorem SameAll.first (s : SameAll l2 l) (t : Int) : firstV l2 t = firstV l t := by
  unfold firstV
  by_cases q : 0 ≤ t ∧ t < l.length ∧ ValidL l
  · rw [if_pos q, if_pos ⟨q.1, by rw [s.1]; exact q.2.1, s.valid.2 q.2.2⟩, s.sum]
  · rw [if_neg q, if_neg fun k => q ⟨k.1, by rw [← s.1]; exact k.2.1, s.valid.1 k.2.2⟩]
theorem SameAll.count (s : SameAll l2 l) : countV l2 = countV l := by
  unfold countV
  by_cases q : ValidL l
  · rw [if_pos q, if_pos (s.valid.2 q), s.sum, s.1]
  · rw [if_neg q, if_neg fun k => q (s.valid.1 k)]
theorem SameAll.seats (s : SameAll l2 l) (i : Nat) : seatsV (tb l2 i) = seatsV (tb l i) := by
  unfold seatsV
  simp only [s.chk, s.size]
def FindR (l : List Tab) (nm : List UInt8) (k2 : Int) (f2 : Bool) : Prop :=
  (f2 = true ∧ ∃ k : Nat, k2 = k ∧ ValidL l ∧ k < l.length ∧ (tb l k).name = nm ∧ ∀ j, j < k → ¬ (tb l j).name = nm) ∨ (f2 = false ∧ k2 = 0 ∧ (¬ ValidL l ∨ ∀ j, j < l.length → ¬ (tb l j).name = nm))
theorem SameAll.findR {nm : List UInt8} {a : Int} {b : Bool} (s : SameAll l2 l) (k : FindR l2 nm a b) : FindR l nm a b := by
  unfold FindR at k ⊢
  simp only [s.valid, s.name, s.1] at k
  exact k
theorem find2_ok {h0 : AH} (w : WfH h0) (v : Value) (l : List Tab) (H : HallR h0 v l) (nm : List UInt8) : Fn Tryz.prog Xh 32 [v, str nm] h0 (fun r h' => ∃ k2 f2, r = .tuple #[.int .i64 k2, .bool f2] ∧ FindR l nm k2 f2 ∧ Hs h0 h' []) := by
  refine (find_ok w v l H nm).mono ?_
  rintro r h ⟨⟨k, rfl, q⟩ | ⟨rfl, q⟩, x⟩
  · exact ⟨_, _, rfl, .inl ⟨rfl, k, rfl, q⟩, x⟩
  · exact ⟨_, _, rfl, .inr ⟨rfl, rfl, q⟩, x⟩
theorem ValidL.one (k : ValidL l) {i j : Nat} (hi : i < l.length) (hj : j < l.length) (h : (tb l i).name = (tb l j).name) : i = j := by
  rcases Nat.lt_trichotomy i j with q | q | q
  · exact absurd ⟨i, q, h⟩ (k.2 j hj).2
  · exact q
  · exact absurd ⟨j, q, h.symm⟩ (k.2 i hi).2
end
theorem awake_ok {h0 : AH} : Fn Tryz.prog Xh 21 [] h0 (fun v h' => v = .bool true ∧ h' = h0) := Fn_known rfl ⟨rfl, rfl⟩

theorem checks_ok {h0 : AH} (w : WfH h0) (v : Value) (l : List Tab) (H : HallR h0 v l) (nm : List UInt8) (t : Int) : Fn Tryz.prog Xh 23 [v, str nm, .int .i64 t] h0 (fun r h' => r = .bool true ∧ Hs h0 h' []) := by
  have S := Hs.start w
  have hl := H.len
  refine Fn_K rfl Tryz.func23 rfl rfl ?_
  all_goals (repeat' (first | refine K_seq ?_ | refine k_cond rfl ?_ | refine K_skip ?_ | refine K_exit ?_ | refine k_block ?_ | refine K_scope ?_ | (refine K_region (id := 0) ?_; refine mv ?_; refine KO_nil ?_) | (refine K_region (id := 1) ?_; refine mv ?_)))
  (refine KO_fn rfl rfl rfl rfl rfl ((copy_ok S.wf v l H.rd H.len H.tab).mono ?_); rintro u g ⟨l2, sa, Hu, x⟩) <;> (replace S := S.join0 x; clear x; refine mv ?_; refine KO_nil ?_)
  have T := S
  have w1 := S.wf
  have H1 := H.ext w S.ext
  have hl2 := sa.1
  have hr1 := H1.rd
  have hru := Hu.rd
  replace S := Hs.start w1
  all_goals (repeat' (first | refine K_seq ?_ | refine k_cond rfl ?_ | refine K_skip ?_ | refine K_exit ?_ | refine k_block ?_ | refine K_scope ?_ | (refine K_region (id := 2) ?_; refine mv ?_)))
  (refine KO_fn rfl rfl rfl rfl rfl ((checkAll_ok S.wf u l2 (Hu.ext w1 S.ext)).mono ?_); rintro _ h ⟨ci, e, rfl, hk, x⟩) <;> (replace S := S.join0 x; clear x; refine mv ?_; refine vl ?_; refine vl ?_; refine mv ?_; refine mv ?_; refine KO_nil ?_)
  all_goals (repeat' (first | refine K_seq ?_ | refine k_cond rfl ?_ | refine K_skip ?_ | refine K_exit ?_ | refine k_block ?_ | refine K_scope ?_ | (refine K_region (id := 3) ?_; refine mv ?_)))
  (refine KO_fn rfl rfl rfl rfl rfl ((refCheckAll_ok S.wf v l (H1.ext w1 S.ext)).mono ?_); rintro _ h ⟨i', e', rfl, hk2, x⟩) <;> (replace S := S.join0 x; clear x; obtain ⟨rfl, rfl⟩ := (sa.chkAll hk).uniq hk2; refine mv ?_; refine vl ?_; refine vl ?_; refine mv ?_; refine mv ?_; refine KO_nil ?_)
  all_goals (repeat' (first | refine K_seq ?_ | refine k_cond rfl ?_ | refine K_skip ?_ | refine K_exit ?_ | refine k_block ?_ | refine K_scope ?_ | (refine K_region (id := 4) ?_; refine mv ?_; refine mv ?_; (first | refine cT ?_ | refine cF ?_ | (refine cS ?_ ?_ <;> intro hc)) <;> (refine mv ?_; (first | refine off ?_ | refine mv ?_); (first | refine off ?_ | refine mv ?_); (first | refine off ?_ | (first | refine cT ?_ | refine cF ?_ | (refine cS ?_ ?_ <;> intro hc))) <;> (refine vl ?_; refine KO_nil ?_))) | (refine K_region (id := 5) ?_; refine mv ?_; refine KO_nil ?_) | (refine K_region (id := 6) ?_; refine mv ?_; (first | refine lnB S ?_ | refine lnS S rfl rfl ?_); refine mv ?_; refine KO_nil ?_)))
  refine k_loop (σ := Nat) (fun i h' => Hs g h' [] ∧ i ≤ l.length) (fun i => l.length - i) (fun i => [(0, v), (1, str nm), (2, .int .i64 t), (7, u), (11, .int .i64 e), (42, u), (43, .int .i64 l2.length), (44, .int .i64 i)]) 0 (by repeat (first | exact Ks.le_nil _ | refine Ks.le_cons rfl ?_ | refine Ks.le_int ?_)) ?_ ?_
  · exact ⟨S, Nat.zero_le _⟩
  clear S
  rintro i h ⟨S, h1⟩
  all_goals (repeat' (first | refine K_seq ?_ | refine k_cond rfl ?_ | refine K_skip ?_ | refine K_exit ?_ | refine k_block ?_ | refine K_scope ?_ | (refine K_region (id := 7) ?_; (first | refine cT ?_ | refine cF ?_ | (refine cS ?_ ?_ <;> intro hc)) <;> (refine KO_nil ?_)) | (refine K_region (id := 8) ?_; refine mv ?_; refine mv ?_; refine KO_nil ?_) | (refine K_region (id := 9) ?_; refine mv ?_; refine mv ?_; (first | refine ixB S ?_ | refine ixS S rfl rfl ?_); (first | refine lB S rfl rfl ?_ | refine lES S rfl rfl ?_ | refine lEB S ?_ | refine lH S ?_)) | (refine K_region (id := 16) ?_; refine mv ?_; refine mv ?_; refine mv ?_; refine mv ?_; refine KO_nil ?_) | (refine K_region (id := 17) ?_; refine mv ?_; (first | refine cT ?_ | refine cF ?_ | (refine cS ?_ ?_ <;> intro hc)) <;> (refine KO_nil ?_)) | (refine K_region (id := 18) ?_; refine mv ?_) | (refine K_region (id := 27) ?_; refine mv ?_; refine mv ?_)))
  · (try simp only [Int.toNat_natCast] at *)
    have hi : i < l.length := by omega
    have e1 := sa.chk i
    have e2 := sa.seats i
    (refine KO_fn rfl rfl rfl rfl rfl ((refCheck_ok S.wf (tb l i) ((H1.ext w1 S.ext).tab i hi)).mono ?_); rintro _ h ⟨rfl, x⟩) <;> (replace S := S.join0 x; clear x; refine mv ?_; refine KO_nil ?_)
    all_goals (repeat' (first | refine K_seq ?_ | refine k_cond rfl ?_ | refine K_skip ?_ | refine K_exit ?_ | refine k_block ?_ | refine K_scope ?_ | (refine K_region (id := 10) ?_; refine mv ?_; refine KO_nil ?_) | (refine K_region (id := 11) ?_; refine mv ?_; (first | refine cT ?_ | refine cF ?_ | (refine cS ?_ ?_ <;> intro hc)) <;> (refine KO_nil ?_)) | (refine K_region (id := 12) ?_; refine mv ?_; refine mv ?_; (first | refine ixB S ?_ | refine ixS S rfl rfl ?_); (first | refine lB S rfl rfl ?_ | refine lES S rfl rfl ?_ | refine lEB S ?_ | refine lH S ?_)) | (refine K_region (id := 13) ?_; refine mv ?_; refine mv ?_; (first | refine ixB S ?_ | refine ixS S rfl rfl ?_); (first | refine lB S rfl rfl ?_ | refine lES S rfl rfl ?_ | refine lEB S ?_ | refine lH S ?_))))
    · have e3 : seatsV (tb l i) = tsize (tb l i) := by unfold seatsV; rw [if_pos hc]
      (refine KO_fn rfl rfl rfl rfl rfl ((refSize_ok S.wf (tb l i)).mono ?_); rintro _ h ⟨rfl, x⟩) <;> (replace S := S.join0 x; clear x; refine mv ?_; refine KO_nil ?_)
      all_goals (repeat' (first | refine K_seq ?_ | refine k_cond rfl ?_ | refine K_skip ?_ | refine K_exit ?_ | refine k_block ?_ | refine K_scope ?_ | (refine K_region (id := 13) ?_; refine mv ?_; refine mv ?_; (first | refine ixB S ?_ | refine ixS S rfl rfl ?_); (first | refine lB S rfl rfl ?_ | refine lES S rfl rfl ?_ | refine lEB S ?_ | refine lH S ?_))))
      (try simp only [Int.toNat_natCast] at *)
      (refine KO_fn rfl rfl rfl rfl rfl ((check_ok S.wf (tb l2 i) ((Hu.ext w1 S.ext).tab i (by omega))).mono ?_); rintro _ h ⟨rfl, x⟩) <;> (replace S := S.join0 x; clear x; refine mv ?_; (first | refine cT ?_ | refine cF ?_ | (refine cS ?_ ?_ <;> intro hc)) <;> (refine mv ?_; (first | refine off ?_ | refine mv ?_); (first | refine off ?_ | refine mv ?_); (first | refine off ?_ | (first | refine ixB S ?_ | refine ixS S rfl rfl ?_)); (first | refine off ?_ | (first | refine lB S rfl rfl ?_ | refine lES S rfl rfl ?_ | refine lEB S ?_ | refine lH S ?_)); (first | (refine off ?_; (first | refine off ?_ | refine mv ?_); (first | refine off ?_ | (first | refine cT ?_ | refine cF ?_ | (refine cS ?_ ?_ <;> intro hc))) <;> (refine vl ?_; refine KO_nil ?_)) | skip)))
      (try simp only [Int.toNat_natCast] at *)
      (refine KO_fn rfl rfl rfl rfl rfl ((seats_ok S.wf (tb l2 i) ((Hu.ext w1 S.ext).tab i (by omega))).mono ?_); rintro _ h ⟨rfl, x⟩) <;> (replace S := S.join0 x; clear x; (first | refine off ?_ | refine mv ?_); (first | refine off ?_ | (first | refine cT ?_ | refine cF ?_ | (refine cS ?_ ?_ <;> intro hc))) <;> (refine vl ?_; refine KO_nil ?_))
      all_goals (repeat' (first | refine K_seq ?_ | refine k_cond rfl ?_ | refine K_skip ?_ | refine K_exit ?_ | refine k_block ?_ | refine K_scope ?_ | (refine K_region (id := 14) ?_; refine mv ?_; refine KO_nil ?_) | (refine K_region (id := 15) ?_; (first | refine ad ?_ | refine vl ?_); refine mv ?_; refine KO_nil ?_)))
      refine ⟨i + 1, ?_, ?_, (by repeat (first | exact Ks.le_nil _ | refine Ks.le_cons rfl ?_ | refine Ks.le_int ?_))⟩
      · show l.length - (i + 1) < l.length - i; omega
      · exact ⟨S, by omega⟩
    · have e3 : seatsV (tb l i) = 0 := by unfold seatsV; rw [if_neg hc]
      (try simp only [Int.toNat_natCast] at *)
      (refine KO_fn rfl rfl rfl rfl rfl ((check_ok S.wf (tb l2 i) ((Hu.ext w1 S.ext).tab i (by omega))).mono ?_); rintro _ h ⟨rfl, x⟩) <;> (replace S := S.join0 x; clear x; refine mv ?_; (first | refine cT ?_ | refine cF ?_ | (refine cS ?_ ?_ <;> intro hc)) <;> (refine mv ?_; (first | refine off ?_ | refine mv ?_); (first | refine off ?_ | refine mv ?_); (first | refine off ?_ | (first | refine ixB S ?_ | refine ixS S rfl rfl ?_)); (first | refine off ?_ | (first | refine lB S rfl rfl ?_ | refine lES S rfl rfl ?_ | refine lEB S ?_ | refine lH S ?_)); (first | (refine off ?_; (first | refine off ?_ | refine mv ?_); (first | refine off ?_ | (first | refine cT ?_ | refine cF ?_ | (refine cS ?_ ?_ <;> intro hc))) <;> (refine vl ?_; refine KO_nil ?_)) | skip)))
      (try simp only [Int.toNat_natCast] at *)
      (refine KO_fn rfl rfl rfl rfl rfl ((seats_ok S.wf (tb l2 i) ((Hu.ext w1 S.ext).tab i (by omega))).mono ?_); rintro _ h ⟨rfl, x⟩) <;> (replace S := S.join0 x; clear x; (first | refine off ?_ | refine mv ?_); (first | refine off ?_ | (first | refine cT ?_ | refine cF ?_ | (refine cS ?_ ?_ <;> intro hc))) <;> (refine vl ?_; refine KO_nil ?_))
      all_goals (repeat' (first | refine K_seq ?_ | refine k_cond rfl ?_ | refine K_skip ?_ | refine K_exit ?_ | refine k_block ?_ | refine K_scope ?_ | (refine K_region (id := 14) ?_; refine mv ?_; refine KO_nil ?_) | (refine K_region (id := 15) ?_; (first | refine ad ?_ | refine vl ?_); refine mv ?_; refine KO_nil ?_)))
      refine ⟨i + 1, ?_, ?_, (by repeat (first | exact Ks.le_nil _ | refine Ks.le_cons rfl ?_ | refine Ks.le_int ?_))⟩
      · show l.length - (i + 1) < l.length - i; omega
      · exact ⟨S, by omega⟩
  · have hv : ValidL l := hk2.valid.1 (by assumption)
    have hC : countV l = sumT l l.length := by unfold countV; rw [if_pos hv]
    (refine KO_fn rfl rfl rfl rfl rfl ((refSeats_ok S.wf v l (H1.ext w1 S.ext)).mono ?_); rintro so h ⟨out, ho, x⟩) <;> (replace S := S.join1 x; clear x; have ho1 := ho.1; (first | refine lnB S ?_ | refine lnS S rfl rfl ?_); refine mv ?_; refine KO_nil ?_)
    all_goals (repeat' (first | refine K_seq ?_ | refine k_cond rfl ?_ | refine K_skip ?_ | refine K_exit ?_ | refine k_block ?_ | refine K_scope ?_ | (refine K_region (id := 19) ?_; refine mv ?_; (first | refine cT ?_ | refine cF ?_ | (refine cS ?_ ?_ <;> intro hc)) <;> (refine mv ?_; (first | refine off ?_ | refine mv ?_); (first | refine off ?_ | refine mv ?_); (first | refine off ?_ | (first | refine lnB S ?_ | refine lnS S rfl rfl ?_)); (first | refine off ?_ | (first | refine cT ?_ | refine cF ?_ | (refine cS ?_ ?_ <;> intro hc))) <;> (refine vl ?_; refine KO_nil ?_))) | (refine K_region (id := 20) ?_; refine mv ?_; refine mv ?_) | (refine K_region (id := 21) ?_; refine mv ?_; (first | refine lnB S ?_ | refine lnS S rfl rfl ?_); refine mv ?_; refine KO_nil ?_)))
    · have hF : firstV l t = sumT l t.toNat := by unfold firstV; rw [if_pos ⟨by omega, by omega, hv⟩]
      (refine KO_fn rfl rfl rfl rfl rfl ((refFirstI_ok S.wf v l (H1.ext w1 S.ext) t (by omega) (by omega)).mono ?_); rintro _ h ⟨rfl, x⟩) <;> (replace S := S.join0 x; clear x; refine mv ?_; refine KO_nil ?_)
      all_goals (repeat' (first | refine K_seq ?_ | refine k_cond rfl ?_ | refine K_skip ?_ | refine K_exit ?_ | refine k_block ?_ | refine K_scope ?_ | (refine K_region (id := 21) ?_; refine mv ?_; (first | refine lnB S ?_ | refine lnS S rfl rfl ?_); refine mv ?_; refine KO_nil ?_)))
      refine k_loop (σ := Nat × Int × Bool) (fun (i, a, fd) h' => Hs g h' [] ∧ i ≤ l.length ∧ ((fd = false ∧ a = 0 ∧ ∀ j, j < i → ¬ (tb l j).name = nm) ∨ (fd = true ∧ ∃ k : Nat, k < i ∧ a = k ∧ (tb l k).name = nm))) (fun (i, a, fd) => l.length - i) (fun (i, a, fd) => [(0, v), (1, str nm), (2, .int .i64 t), (7, u), (15, .int .i64 (firstV l t)), (16, .int .i64 (countV l)), (17, .int .i64 a), (18, .bool fd), (92, v), (93, .int .i64 l.length), (94, .int .i64 i)]) (0, 0, false) (by repeat (first | exact Ks.le_nil _ | refine Ks.le_cons rfl ?_ | refine Ks.le_int ?_)) ?_ ?_
      · exact ⟨S.drop, Nat.zero_le _, .inl ⟨rfl, rfl, fun j hj => absurd hj (Nat.not_lt_zero _)⟩⟩
      clear S
      rintro ⟨i, a, fd⟩ h ⟨S, h1, hfin⟩
      all_goals (repeat' (first | refine K_seq ?_ | refine k_cond rfl ?_ | refine K_skip ?_ | refine K_exit ?_ | refine k_block ?_ | refine K_scope ?_ | (refine K_region (id := 22) ?_; (first | refine cT ?_ | refine cF ?_ | (refine cS ?_ ?_ <;> intro hc)) <;> (refine KO_nil ?_)) | (refine K_region (id := 23) ?_; refine mv ?_; refine mv ?_; refine KO_nil ?_) | (refine K_region (id := 24) ?_; refine mv ?_; refine mv ?_; (first | refine ixB S ?_ | refine ixS S rfl rfl ?_); (first | refine vl ?_ | refine fB S ?_ | refine fS S rfl rfl ?_ | refine fA ?_); (first | refine lB S rfl rfl ?_ | refine lES S rfl rfl ?_ | refine lEB S ?_ | refine lH S ?_); refine mv ?_; (refine tS ?_ ?_ <;> intro hc) <;> (refine KO_nil ?_)) | (refine K_region (id := 25) ?_; refine mv ?_; refine mv ?_; refine mv ?_; refine KO_nil ?_) | (refine K_region (id := 26) ?_; (first | refine ad ?_ | refine vl ?_); refine mv ?_; refine KO_nil ?_) | (refine K_region (id := 27) ?_; refine mv ?_; refine mv ?_)))
      · (try simp only [Int.toNat_natCast] at *)
        refine ⟨(i + 1, (i : Int), true), ?_, ?_, (by repeat (first | exact Ks.le_nil _ | refine Ks.le_cons rfl ?_ | refine Ks.le_int ?_))⟩
        · show l.length - (i + 1) < l.length - i; omega
        · refine ⟨S, by omega, .inr ⟨rfl, i, by omega, rfl, by assumption⟩⟩
      · (try simp only [Int.toNat_natCast] at *)
        refine ⟨(i + 1, a, fd), ?_, ?_, (by repeat (first | exact Ks.le_nil _ | refine Ks.le_cons rfl ?_ | refine Ks.le_int ?_))⟩
        · show l.length - (i + 1) < l.length - i; omega
        · refine ⟨S, by omega, ?_⟩
          rcases hfin with ⟨q1, q2, q3⟩ | ⟨q1, k, q2, q3, q4⟩
          · refine .inl ⟨q1, q2, fun j hj => ?_⟩
            rcases Nat.lt_or_ge j i with q | q
            · exact q3 j q
            · obtain rfl : j = i := by omega
              assumption
          · exact .inr ⟨q1, k, by omega, q3, q4⟩
      have fin : ∀ k2 f2, FindR l nm k2 f2 → k2 = a ∧ f2 = fd := by
        rintro k2 f2 (⟨e2, k, e1, g1, g2, g3, g4⟩ | ⟨e2, e1, g1⟩)
        · rcases hfin with ⟨q1, q2, q3⟩ | ⟨q1, k, q2, q3, q4⟩
          · exact absurd g3 (q3 _ (by omega))
          · have := hv.one (by omega) g2 (q4.trans g3.symm)
            exact ⟨by omega, by rw [e2, q1]⟩
        · rcases hfin with ⟨q1, q2, q3⟩ | ⟨q1, k, q2, q3, q4⟩
          · exact ⟨by omega, by rw [e2, q1]⟩
          · rcases g1 with g1 | g1
            · exact absurd hv g1
            · exact absurd q4 (g1 k (by omega))
      (refine KO_fn rfl rfl rfl rfl rfl ((find2_ok S.wf u l2 (Hu.ext w1 S.ext) nm).mono ?_); rintro _ h ⟨k2, f2, rfl, hfi, x⟩) <;> (replace S := S.join0 x; clear x; obtain ⟨rfl, rfl⟩ := fin _ _ (sa.findR hfi); refine mv ?_; refine vl ?_; refine vl ?_; refine mv ?_; refine mv ?_; refine KO_nil ?_)
      all_goals (repeat' (first | refine K_seq ?_ | refine k_cond rfl ?_ | refine K_skip ?_ | refine K_exit ?_ | refine k_block ?_ | refine K_scope ?_ | (refine K_region (id := 28) ?_; refine mv ?_)))
      have hCC := sa.count
      have hFF := sa.first t
      (refine KO_fn rfl rfl rfl rfl rfl ((count_ok S.wf u l2 (Hu.ext w1 S.ext)).mono ?_); rintro _ h ⟨rfl, x⟩) <;> (replace S := S.join0 x; clear x; refine mv ?_; (first | refine cT ?_ | refine cF ?_ | (refine cS ?_ ?_ <;> intro hc)) <;> (refine mv ?_; (first | refine off ?_ | refine mv ?_); (first | refine off ?_ | refine mv ?_); (first | (refine off ?_; (first | refine off ?_ | refine mv ?_); (first | refine off ?_ | (first | refine cT ?_ | refine cF ?_ | (refine cS ?_ ?_ <;> intro hc))) <;> (refine vl ?_; refine mv ?_; (first | refine off ?_ | refine mv ?_); (first | refine off ?_ | refine mv ?_); (first | refine off ?_ | (first | refine cT ?_ | refine cF ?_ | (refine cS ?_ ?_ <;> intro hc))) <;> (refine vl ?_; refine mv ?_; (first | refine off ?_ | refine mv ?_); (first | refine off ?_ | refine mv ?_); (first | refine off ?_ | (first | refine bT ?_ | refine vl ?_)); refine vl ?_; refine mv ?_; (first | refine off ?_ | refine mv ?_); (first | refine off ?_ | refine mv ?_); (first | (refine off ?_; refine vl ?_; refine mv ?_; refine KO_nil ?_) | skip)))) | skip)))
      (refine KO_fn rfl rfl rfl rfl rfl ((first_ok S.wf u l2 (Hu.ext w1 S.ext) t).mono ?_); rintro _ h ⟨rfl, x⟩) <;> (replace S := S.join0 x; clear x; (first | refine off ?_ | refine mv ?_); (first | refine off ?_ | (first | refine cT ?_ | refine cF ?_ | (refine cS ?_ ?_ <;> intro hc))) <;> (refine vl ?_; refine mv ?_; (first | refine off ?_ | refine mv ?_); (first | refine off ?_ | refine mv ?_); (first | refine off ?_ | (first | refine cT ?_ | refine cF ?_ | (refine cS ?_ ?_ <;> intro hc))) <;> (refine vl ?_; refine mv ?_; (first | refine off ?_ | refine mv ?_); (first | refine off ?_ | refine mv ?_); (first | refine off ?_ | (first | refine bT ?_ | refine vl ?_)); refine vl ?_; refine mv ?_; (first | refine off ?_ | refine mv ?_); (first | refine off ?_ | refine mv ?_); (first | (refine off ?_; refine vl ?_; refine mv ?_; refine KO_nil ?_) | skip))))
      (refine KO_fn rfl rfl rfl rfl rfl ((same_ok S.wf u v l2 l (Hu.ext w1 S.ext).rd (H1.ext w1 S.ext).rd (Hu.ext w1 S.ext).tab (H1.ext w1 S.ext).tab (by omega) (by omega)).mono ?_); rintro _ h ⟨⟨rfl, hq⟩ | ⟨rfl, hq⟩, x⟩) <;> (replace S := S.join0 x; clear x; refine vl ?_; refine mv ?_; refine KO_nil ?_)
      all_goals (repeat' (first | refine K_seq ?_ | refine k_cond rfl ?_ | refine K_skip ?_ | refine K_exit ?_ | refine k_block ?_ | refine K_scope ?_))
      all_goals (refine K_ret ⟨_, rfl, ?_⟩)
      · exact ⟨rfl, T.join0 S.drop⟩
      · exact absurd sa hq
    · have hF : firstV l t = 0 := by unfold firstV; rw [if_neg (by omega)]
      refine k_loop (σ := Nat × Int × Bool) (fun (i, a, fd) h' => Hs g h' [] ∧ i ≤ l.length ∧ ((fd = false ∧ a = 0 ∧ ∀ j, j < i → ¬ (tb l j).name = nm) ∨ (fd = true ∧ ∃ k : Nat, k < i ∧ a = k ∧ (tb l k).name = nm))) (fun (i, a, fd) => l.length - i) (fun (i, a, fd) => [(0, v), (1, str nm), (2, .int .i64 t), (7, u), (15, .int .i64 (firstV l t)), (16, .int .i64 (countV l)), (17, .int .i64 a), (18, .bool fd), (92, v), (93, .int .i64 l.length), (94, .int .i64 i)]) (0, 0, false) (by repeat (first | exact Ks.le_nil _ | refine Ks.le_cons rfl ?_ | refine Ks.le_int ?_)) ?_ ?_
      · exact ⟨S.drop, Nat.zero_le _, .inl ⟨rfl, rfl, fun j hj => absurd hj (Nat.not_lt_zero _)⟩⟩
      clear S
      rintro ⟨i, a, fd⟩ h ⟨S, h1, hfin⟩
      all_goals (repeat' (first | refine K_seq ?_ | refine k_cond rfl ?_ | refine K_skip ?_ | refine K_exit ?_ | refine k_block ?_ | refine K_scope ?_ | (refine K_region (id := 22) ?_; (first | refine cT ?_ | refine cF ?_ | (refine cS ?_ ?_ <;> intro hc)) <;> (refine KO_nil ?_)) | (refine K_region (id := 23) ?_; refine mv ?_; refine mv ?_; refine KO_nil ?_) | (refine K_region (id := 24) ?_; refine mv ?_; refine mv ?_; (first | refine ixB S ?_ | refine ixS S rfl rfl ?_); (first | refine vl ?_ | refine fB S ?_ | refine fS S rfl rfl ?_ | refine fA ?_); (first | refine lB S rfl rfl ?_ | refine lES S rfl rfl ?_ | refine lEB S ?_ | refine lH S ?_); refine mv ?_; (refine tS ?_ ?_ <;> intro hc) <;> (refine KO_nil ?_)) | (refine K_region (id := 25) ?_; refine mv ?_; refine mv ?_; refine mv ?_; refine KO_nil ?_) | (refine K_region (id := 26) ?_; (first | refine ad ?_ | refine vl ?_); refine mv ?_; refine KO_nil ?_) | (refine K_region (id := 27) ?_; refine mv ?_; refine mv ?_)))
      · (try simp only [Int.toNat_natCast] at *)
        refine ⟨(i + 1, (i : Int), true), ?_, ?_, (by repeat (first | exact Ks.le_nil _ | refine Ks.le_cons rfl ?_ | refine Ks.le_int ?_))⟩
        · show l.length - (i + 1) < l.length - i; omega
        · refine ⟨S, by omega, .inr ⟨rfl, i, by omega, rfl, by assumption⟩⟩
      · (try simp only [Int.toNat_natCast] at *)
        refine ⟨(i + 1, a, fd), ?_, ?_, (by repeat (first | exact Ks.le_nil _ | refine Ks.le_cons rfl ?_ | refine Ks.le_int ?_))⟩
        · show l.length - (i + 1) < l.length - i; omega
        · refine ⟨S, by omega, ?_⟩
          rcases hfin with ⟨q1, q2, q3⟩ | ⟨q1, k, q2, q3, q4⟩
          · refine .inl ⟨q1, q2, fun j hj => ?_⟩
            rcases Nat.lt_or_ge j i with q | q
            · exact q3 j q
            · obtain rfl : j = i := by omega
              assumption
          · exact .inr ⟨q1, k, by omega, q3, q4⟩
      have fin : ∀ k2 f2, FindR l nm k2 f2 → k2 = a ∧ f2 = fd := by
        rintro k2 f2 (⟨e2, k, e1, g1, g2, g3, g4⟩ | ⟨e2, e1, g1⟩)
        · rcases hfin with ⟨q1, q2, q3⟩ | ⟨q1, k, q2, q3, q4⟩
          · exact absurd g3 (q3 _ (by omega))
          · have := hv.one (by omega) g2 (q4.trans g3.symm)
            exact ⟨by omega, by rw [e2, q1]⟩
        · rcases hfin with ⟨q1, q2, q3⟩ | ⟨q1, k, q2, q3, q4⟩
          · exact ⟨by omega, by rw [e2, q1]⟩
          · rcases g1 with g1 | g1
            · exact absurd hv g1
            · exact absurd q4 (g1 k (by omega))
      (refine KO_fn rfl rfl rfl rfl rfl ((find2_ok S.wf u l2 (Hu.ext w1 S.ext) nm).mono ?_); rintro _ h ⟨k2, f2, rfl, hfi, x⟩) <;> (replace S := S.join0 x; clear x; obtain ⟨rfl, rfl⟩ := fin _ _ (sa.findR hfi); refine mv ?_; refine vl ?_; refine vl ?_; refine mv ?_; refine mv ?_; refine KO_nil ?_)
      all_goals (repeat' (first | refine K_seq ?_ | refine k_cond rfl ?_ | refine K_skip ?_ | refine K_exit ?_ | refine k_block ?_ | refine K_scope ?_ | (refine K_region (id := 28) ?_; refine mv ?_)))
      have hCC := sa.count
      have hFF := sa.first t
      (refine KO_fn rfl rfl rfl rfl rfl ((count_ok S.wf u l2 (Hu.ext w1 S.ext)).mono ?_); rintro _ h ⟨rfl, x⟩) <;> (replace S := S.join0 x; clear x; refine mv ?_; (first | refine cT ?_ | refine cF ?_ | (refine cS ?_ ?_ <;> intro hc)) <;> (refine mv ?_; (first | refine off ?_ | refine mv ?_); (first | refine off ?_ | refine mv ?_); (first | (refine off ?_; (first | refine off ?_ | refine mv ?_); (first | refine off ?_ | (first | refine cT ?_ | refine cF ?_ | (refine cS ?_ ?_ <;> intro hc))) <;> (refine vl ?_; refine mv ?_; (first | refine off ?_ | refine mv ?_); (first | refine off ?_ | refine mv ?_); (first | refine off ?_ | (first | refine cT ?_ | refine cF ?_ | (refine cS ?_ ?_ <;> intro hc))) <;> (refine vl ?_; refine mv ?_; (first | refine off ?_ | refine mv ?_); (first | refine off ?_ | refine mv ?_); (first | refine off ?_ | (first | refine bT ?_ | refine vl ?_)); refine vl ?_; refine mv ?_; (first | refine off ?_ | refine mv ?_); (first | refine off ?_ | refine mv ?_); (first | (refine off ?_; refine vl ?_; refine mv ?_; refine KO_nil ?_) | skip)))) | skip)))
      (refine KO_fn rfl rfl rfl rfl rfl ((first_ok S.wf u l2 (Hu.ext w1 S.ext) t).mono ?_); rintro _ h ⟨rfl, x⟩) <;> (replace S := S.join0 x; clear x; (first | refine off ?_ | refine mv ?_); (first | refine off ?_ | (first | refine cT ?_ | refine cF ?_ | (refine cS ?_ ?_ <;> intro hc))) <;> (refine vl ?_; refine mv ?_; (first | refine off ?_ | refine mv ?_); (first | refine off ?_ | refine mv ?_); (first | refine off ?_ | (first | refine cT ?_ | refine cF ?_ | (refine cS ?_ ?_ <;> intro hc))) <;> (refine vl ?_; refine mv ?_; (first | refine off ?_ | refine mv ?_); (first | refine off ?_ | refine mv ?_); (first | refine off ?_ | (first | refine bT ?_ | refine vl ?_)); refine vl ?_; refine mv ?_; (first | refine off ?_ | refine mv ?_); (first | refine off ?_ | refine mv ?_); (first | (refine off ?_; refine vl ?_; refine mv ?_; refine KO_nil ?_) | skip))))
      (refine KO_fn rfl rfl rfl rfl rfl ((same_ok S.wf u v l2 l (Hu.ext w1 S.ext).rd (H1.ext w1 S.ext).rd (Hu.ext w1 S.ext).tab (H1.ext w1 S.ext).tab (by omega) (by omega)).mono ?_); rintro _ h ⟨⟨rfl, hq⟩ | ⟨rfl, hq⟩, x⟩) <;> (replace S := S.join0 x; clear x; refine vl ?_; refine mv ?_; refine KO_nil ?_)
      all_goals (repeat' (first | refine K_seq ?_ | refine k_cond rfl ?_ | refine K_skip ?_ | refine K_exit ?_ | refine k_block ?_ | refine K_scope ?_))
      all_goals (refine K_ret ⟨_, rfl, ?_⟩)
      · exact ⟨rfl, T.join0 S.drop⟩
      · exact absurd sa hq
    · have hF : firstV l t = 0 := by unfold firstV; rw [if_neg (by omega)]
      refine k_loop (σ := Nat × Int × Bool) (fun (i, a, fd) h' => Hs g h' [] ∧ i ≤ l.length ∧ ((fd = false ∧ a = 0 ∧ ∀ j, j < i → ¬ (tb l j).name = nm) ∨ (fd = true ∧ ∃ k : Nat, k < i ∧ a = k ∧ (tb l k).name = nm))) (fun (i, a, fd) => l.length - i) (fun (i, a, fd) => [(0, v), (1, str nm), (2, .int .i64 t), (7, u), (15, .int .i64 (firstV l t)), (16, .int .i64 (countV l)), (17, .int .i64 a), (18, .bool fd), (92, v), (93, .int .i64 l.length), (94, .int .i64 i)]) (0, 0, false) (by repeat (first | exact Ks.le_nil _ | refine Ks.le_cons rfl ?_ | refine Ks.le_int ?_)) ?_ ?_
      · exact ⟨S.drop, Nat.zero_le _, .inl ⟨rfl, rfl, fun j hj => absurd hj (Nat.not_lt_zero _)⟩⟩
      clear S
      rintro ⟨i, a, fd⟩ h ⟨S, h1, hfin⟩
      all_goals (repeat' (first | refine K_seq ?_ | refine k_cond rfl ?_ | refine K_skip ?_ | refine K_exit ?_ | refine k_block ?_ | refine K_scope ?_ | (refine K_region (id := 22) ?_; (first | refine cT ?_ | refine cF ?_ | (refine cS ?_ ?_ <;> intro hc)) <;> (refine KO_nil ?_)) | (refine K_region (id := 23) ?_; refine mv ?_; refine mv ?_; refine KO_nil ?_) | (refine K_region (id := 24) ?_; refine mv ?_; refine mv ?_; (first | refine ixB S ?_ | refine ixS S rfl rfl ?_); (first | refine vl ?_ | refine fB S ?_ | refine fS S rfl rfl ?_ | refine fA ?_); (first | refine lB S rfl rfl ?_ | refine lES S rfl rfl ?_ | refine lEB S ?_ | refine lH S ?_); refine mv ?_; (refine tS ?_ ?_ <;> intro hc) <;> (refine KO_nil ?_)) | (refine K_region (id := 25) ?_; refine mv ?_; refine mv ?_; refine mv ?_; refine KO_nil ?_) | (refine K_region (id := 26) ?_; (first | refine ad ?_ | refine vl ?_); refine mv ?_; refine KO_nil ?_) | (refine K_region (id := 27) ?_; refine mv ?_; refine mv ?_)))
      · (try simp only [Int.toNat_natCast] at *)
        refine ⟨(i + 1, (i : Int), true), ?_, ?_, (by repeat (first | exact Ks.le_nil _ | refine Ks.le_cons rfl ?_ | refine Ks.le_int ?_))⟩
        · show l.length - (i + 1) < l.length - i; omega
        · refine ⟨S, by omega, .inr ⟨rfl, i, by omega, rfl, by assumption⟩⟩
      · (try simp only [Int.toNat_natCast] at *)
        refine ⟨(i + 1, a, fd), ?_, ?_, (by repeat (first | exact Ks.le_nil _ | refine Ks.le_cons rfl ?_ | refine Ks.le_int ?_))⟩
        · show l.length - (i + 1) < l.length - i; omega
        · refine ⟨S, by omega, ?_⟩
          rcases hfin with ⟨q1, q2, q3⟩ | ⟨q1, k, q2, q3, q4⟩
          · refine .inl ⟨q1, q2, fun j hj => ?_⟩
            rcases Nat.lt_or_ge j i with q | q
            · exact q3 j q
            · obtain rfl : j = i := by omega
              assumption
          · exact .inr ⟨q1, k, by omega, q3, q4⟩
      have fin : ∀ k2 f2, FindR l nm k2 f2 → k2 = a ∧ f2 = fd := by
        rintro k2 f2 (⟨e2, k, e1, g1, g2, g3, g4⟩ | ⟨e2, e1, g1⟩)
        · rcases hfin with ⟨q1, q2, q3⟩ | ⟨q1, k, q2, q3, q4⟩
          · exact absurd g3 (q3 _ (by omega))
          · have := hv.one (by omega) g2 (q4.trans g3.symm)
            exact ⟨by omega, by rw [e2, q1]⟩
        · rcases hfin with ⟨q1, q2, q3⟩ | ⟨q1, k, q2, q3, q4⟩
          · exact ⟨by omega, by rw [e2, q1]⟩
          · rcases g1 with g1 | g1
            · exact absurd hv g1
            · exact absurd q4 (g1 k (by omega))
      (refine KO_fn rfl rfl rfl rfl rfl ((find2_ok S.wf u l2 (Hu.ext w1 S.ext) nm).mono ?_); rintro _ h ⟨k2, f2, rfl, hfi, x⟩) <;> (replace S := S.join0 x; clear x; obtain ⟨rfl, rfl⟩ := fin _ _ (sa.findR hfi); refine mv ?_; refine vl ?_; refine vl ?_; refine mv ?_; refine mv ?_; refine KO_nil ?_)
      all_goals (repeat' (first | refine K_seq ?_ | refine k_cond rfl ?_ | refine K_skip ?_ | refine K_exit ?_ | refine k_block ?_ | refine K_scope ?_ | (refine K_region (id := 28) ?_; refine mv ?_)))
      have hCC := sa.count
      have hFF := sa.first t
      (refine KO_fn rfl rfl rfl rfl rfl ((count_ok S.wf u l2 (Hu.ext w1 S.ext)).mono ?_); rintro _ h ⟨rfl, x⟩) <;> (replace S := S.join0 x; clear x; refine mv ?_; (first | refine cT ?_ | refine cF ?_ | (refine cS ?_ ?_ <;> intro hc)) <;> (refine mv ?_; (first | refine off ?_ | refine mv ?_); (first | refine off ?_ | refine mv ?_); (first | (refine off ?_; (first | refine off ?_ | refine mv ?_); (first | refine off ?_ | (first | refine cT ?_ | refine cF ?_ | (refine cS ?_ ?_ <;> intro hc))) <;> (refine vl ?_; refine mv ?_; (first | refine off ?_ | refine mv ?_); (first | refine off ?_ | refine mv ?_); (first | refine off ?_ | (first | refine cT ?_ | refine cF ?_ | (refine cS ?_ ?_ <;> intro hc))) <;> (refine vl ?_; refine mv ?_; (first | refine off ?_ | refine mv ?_); (first | refine off ?_ | refine mv ?_); (first | refine off ?_ | (first | refine bT ?_ | refine vl ?_)); refine vl ?_; refine mv ?_; (first | refine off ?_ | refine mv ?_); (first | refine off ?_ | refine mv ?_); (first | (refine off ?_; refine vl ?_; refine mv ?_; refine KO_nil ?_) | skip)))) | skip)))
      (refine KO_fn rfl rfl rfl rfl rfl ((first_ok S.wf u l2 (Hu.ext w1 S.ext) t).mono ?_); rintro _ h ⟨rfl, x⟩) <;> (replace S := S.join0 x; clear x; (first | refine off ?_ | refine mv ?_); (first | refine off ?_ | (first | refine cT ?_ | refine cF ?_ | (refine cS ?_ ?_ <;> intro hc))) <;> (refine vl ?_; refine mv ?_; (first | refine off ?_ | refine mv ?_); (first | refine off ?_ | refine mv ?_); (first | refine off ?_ | (first | refine cT ?_ | refine cF ?_ | (refine cS ?_ ?_ <;> intro hc))) <;> (refine vl ?_; refine mv ?_; (first | refine off ?_ | refine mv ?_); (first | refine off ?_ | refine mv ?_); (first | refine off ?_ | (first | refine bT ?_ | refine vl ?_)); refine vl ?_; refine mv ?_; (first | refine off ?_ | refine mv ?_); (first | refine off ?_ | refine mv ?_); (first | (refine off ?_; refine vl ?_; refine mv ?_; refine KO_nil ?_) | skip))))
      (refine KO_fn rfl rfl rfl rfl rfl ((same_ok S.wf u v l2 l (Hu.ext w1 S.ext).rd (H1.ext w1 S.ext).rd (Hu.ext w1 S.ext).tab (H1.ext w1 S.ext).tab (by omega) (by omega)).mono ?_); rintro _ h ⟨⟨rfl, hq⟩ | ⟨rfl, hq⟩, x⟩) <;> (replace S := S.join0 x; clear x; refine vl ?_; refine mv ?_; refine KO_nil ?_)
      all_goals (repeat' (first | refine K_seq ?_ | refine k_cond rfl ?_ | refine K_skip ?_ | refine K_exit ?_ | refine k_block ?_ | refine K_scope ?_))
      all_goals (refine K_ret ⟨_, rfl, ?_⟩)
      · exact ⟨rfl, T.join0 S.drop⟩
      · exact absurd sa hq
  · have hv : ¬ ValidL l := fun q => absurd (hk2.valid.2 q) (by assumption)
    have hC : countV l = 0 := by unfold countV; rw [if_neg hv]
    have hF : firstV l t = 0 := by unfold firstV; rw [if_neg (fun q => hv q.2.2)]
    have fin : ∀ k2 f2, FindR l nm k2 f2 → k2 = 0 ∧ f2 = false := by
      rintro k2 f2 (⟨e2, k, e1, g1, g2, g3, g4⟩ | ⟨e2, e1, g1⟩)
      · exact absurd g1 hv
      · exact ⟨e1, e2⟩
    (refine KO_fn rfl rfl rfl rfl rfl ((find2_ok S.wf u l2 (Hu.ext w1 S.ext) nm).mono ?_); rintro _ h ⟨k2, f2, rfl, hfi, x⟩) <;> (replace S := S.join0 x; clear x; obtain ⟨rfl, rfl⟩ := fin _ _ (sa.findR hfi); refine mv ?_; refine vl ?_; refine vl ?_; refine mv ?_; refine mv ?_; refine KO_nil ?_)
    all_goals (repeat' (first | refine K_seq ?_ | refine k_cond rfl ?_ | refine K_skip ?_ | refine K_exit ?_ | refine k_block ?_ | refine K_scope ?_ | (refine K_region (id := 28) ?_; refine mv ?_)))
    have hCC := sa.count
    have hFF := sa.first t
    (refine KO_fn rfl rfl rfl rfl rfl ((count_ok S.wf u l2 (Hu.ext w1 S.ext)).mono ?_); rintro _ h ⟨rfl, x⟩) <;> (replace S := S.join0 x; clear x; refine mv ?_; (first | refine cT ?_ | refine cF ?_ | (refine cS ?_ ?_ <;> intro hc)) <;> (refine mv ?_; (first | refine off ?_ | refine mv ?_); (first | refine off ?_ | refine mv ?_); (first | (refine off ?_; (first | refine off ?_ | refine mv ?_); (first | refine off ?_ | (first | refine cT ?_ | refine cF ?_ | (refine cS ?_ ?_ <;> intro hc))) <;> (refine vl ?_; refine mv ?_; (first | refine off ?_ | refine mv ?_); (first | refine off ?_ | refine mv ?_); (first | refine off ?_ | (first | refine cT ?_ | refine cF ?_ | (refine cS ?_ ?_ <;> intro hc))) <;> (refine vl ?_; refine mv ?_; (first | refine off ?_ | refine mv ?_); (first | refine off ?_ | refine mv ?_); (first | refine off ?_ | (first | refine bT ?_ | refine vl ?_)); refine vl ?_; refine mv ?_; (first | refine off ?_ | refine mv ?_); (first | refine off ?_ | refine mv ?_); (first | (refine off ?_; refine vl ?_; refine mv ?_; refine KO_nil ?_) | skip)))) | skip)))
    (refine KO_fn rfl rfl rfl rfl rfl ((first_ok S.wf u l2 (Hu.ext w1 S.ext) t).mono ?_); rintro _ h ⟨rfl, x⟩) <;> (replace S := S.join0 x; clear x; (first | refine off ?_ | refine mv ?_); (first | refine off ?_ | (first | refine cT ?_ | refine cF ?_ | (refine cS ?_ ?_ <;> intro hc))) <;> (refine vl ?_; refine mv ?_; (first | refine off ?_ | refine mv ?_); (first | refine off ?_ | refine mv ?_); (first | refine off ?_ | (first | refine cT ?_ | refine cF ?_ | (refine cS ?_ ?_ <;> intro hc))) <;> (refine vl ?_; refine mv ?_; (first | refine off ?_ | refine mv ?_); (first | refine off ?_ | refine mv ?_); (first | refine off ?_ | (first | refine bT ?_ | refine vl ?_)); refine vl ?_; refine mv ?_; (first | refine off ?_ | refine mv ?_); (first | refine off ?_ | refine mv ?_); (first | (refine off ?_; refine vl ?_; refine mv ?_; refine KO_nil ?_) | skip))))
    (refine KO_fn rfl rfl rfl rfl rfl ((same_ok S.wf u v l2 l (Hu.ext w1 S.ext).rd (H1.ext w1 S.ext).rd (Hu.ext w1 S.ext).tab (H1.ext w1 S.ext).tab (by omega) (by omega)).mono ?_); rintro _ h ⟨⟨rfl, hq⟩ | ⟨rfl, hq⟩, x⟩) <;> (replace S := S.join0 x; clear x; refine vl ?_; refine mv ?_; refine KO_nil ?_)
    all_goals (repeat' (first | refine K_seq ?_ | refine k_cond rfl ?_ | refine K_skip ?_ | refine K_exit ?_ | refine k_block ?_ | refine K_scope ?_))
    all_goals (refine K_ret ⟨_, rfl, ?_⟩)
    · exact ⟨rfl, T.join0 S.drop⟩
    · exact absurd sa hq

end Go.Proofs.Xx

/-
  Seats by their numbers: the program's questions.
-/
namespace Go.Proofs.Xx
open Go Go.Proofs
set_option linter.unusedSimpArgs false
set_option linter.unusedVariables false
set_option maxRecDepth 100000
set_option maxHeartbeats 4000000

/-- The seat s of the hall is the seat k of the table i. -/
def WhereI (l : List Tab) (s : Int) (i k : Nat) : Prop := ValidL l ∧ i < l.length ∧ (k : Int) < tsize (tb l i) ∧ s = sumT l i + k
theorem sumT_mono (l : List Tab) {i j : Nat} (h : i ≤ j) : sumT l i ≤ sumT l j := by
  induction h with
  | refl => exact Int.le_refl _
  | @step m _ ih => have := tsize_le (tb l m); simp only [sumT]; omega
theorem WhereI.unique {l : List Tab} {s : Int} {i k j m : Nat} (h : WhereI l s i k) (g : WhereI l s j m) : i = j ∧ k = m := by
  obtain ⟨-, h2, h3, h4⟩ := h
  obtain ⟨-, g2, g3, g4⟩ := g
  rcases Nat.lt_trichotomy i j with q | q | q
  · have := sumT_mono l (show i + 1 ≤ j by omega); simp only [sumT] at this; omega
  · subst q; exact ⟨rfl, by omega⟩
  · have := sumT_mono l (show j + 1 ≤ i by omega); simp only [sumT] at this; omega
theorem WhereI.sz {l : List Tab} {s : Int} {i k : Nat} (h : WhereI l s i k) : TabS (tb l i) := TabS.of _ (by have := h.2.2.1; omega)
def WhereR (l : List Tab) (s a b : Int) (f : Bool) : Prop := (f = true ∧ ∃ i k : Nat, a = i ∧ b = k ∧ WhereI l s i k) ∨ (f = false ∧ a = 0 ∧ b = 0 ∧ ∀ i k, ¬ WhereI l s i k)
theorem WhereR.unique {l : List Tab} {s a b a' b' : Int} {f f' : Bool} (h : WhereR l s a b f) (g : WhereR l s a' b' f') : a = a' ∧ b = b' ∧ f = f' := by
  rcases h with ⟨rfl, i, k, rfl, rfl, h⟩ | ⟨rfl, rfl, rfl, h⟩ <;> rcases g with ⟨rfl, j, m, rfl, rfl, g⟩ | ⟨rfl, rfl, rfl, g⟩
  · obtain ⟨rfl, rfl⟩ := h.unique g; exact ⟨rfl, rfl, rfl⟩
  · exact absurd h (g _ _)
  · exact absurd g (h _ _)
  · exact ⟨rfl, rfl, rfl⟩
theorem where_ok {h0 : AH} (w : WfH h0) (v : Value) (l : List Tab) (H : HallR h0 v l) (s : Int) (hm : s ≤ 9223372036854775807) : Fn Tryz.prog Xh 30 [v, .int .i64 s] h0 (fun r h' => ∃ a b f, r = .tuple #[.int .i64 a, .int .i64 b, .bool f] ∧ WhereR l s a b f ∧ Hs h0 h' []) := by
  have S := Hs.start w
  have hl := H.len
  have hr := H.rd
  refine Fn_K rfl Tryz.func30 rfl rfl ?_
  all_goals (repeat' (first | refine K_seq ?_ | refine k_cond rfl ?_ | refine K_skip ?_ | refine K_exit ?_ | refine k_block ?_ | refine K_scope ?_ | (refine K_region (id := 0) ?_; refine mv ?_; refine mv ?_; refine mv ?_; refine KO_nil ?_) | (refine K_region (id := 1) ?_; refine mv ?_; (first | refine cT ?_ | refine cF ?_ | (refine cS ?_ ?_ <;> intro hc)) <;> (refine mv ?_; (first | refine off ?_ | refine mv ?_); (first | (refine off ?_; (first | refine off ?_ | refine vl ?_); refine vl ?_; refine KO_nil ?_) | skip))) | (refine K_region (id := 2) ?_; refine mv ?_; refine mv ?_; refine mv ?_; refine KO_nil ?_) | (refine K_region (id := 3) ?_; refine mv ?_; (first | refine lnB S ?_ | refine lnS S rfl rfl ?_); refine mv ?_; refine KO_nil ?_)))
  · refine K_ret ⟨_, rfl, ?_⟩
    exact ⟨0, 0, false, rfl, .inr ⟨rfl, rfl, rfl, fun i k q => by have := sumT_le l i; have := q.2.2.2; omega⟩, S⟩
  · (refine KO_fn rfl rfl rfl rfl rfl ((valid_ok S.wf v l H).mono ?_); rintro _ h ⟨⟨rfl, hq⟩ | ⟨rfl, hq⟩, x⟩) <;> (replace S := S.join0 x; clear x; (first | refine off ?_ | refine vl ?_); refine vl ?_; refine KO_nil ?_)
    all_goals (repeat' (first | refine K_seq ?_ | refine k_cond rfl ?_ | refine K_skip ?_ | refine K_exit ?_ | refine k_block ?_ | refine K_scope ?_ | (refine K_region (id := 2) ?_; refine mv ?_; refine mv ?_; refine mv ?_; refine KO_nil ?_) | (refine K_region (id := 3) ?_; refine mv ?_; (first | refine lnB S ?_ | refine lnS S rfl rfl ?_); refine mv ?_; refine KO_nil ?_)))
    · have z0 : sumT l 0 = 0 := rfl
      refine k_loop (σ := Nat) (fun i h' => Hs h0 h' [] ∧ i ≤ l.length ∧ 0 ≤ s - sumT l i) (fun i => l.length - i) (fun i => [(1, .int .i64 (s - sumT l i)), (17, v), (18, .int .i64 l.length), (19, .int .i64 i)]) 0 (by repeat (first | exact Ks.le_nil _ | refine Ks.le_cons rfl ?_ | refine Ks.le_int ?_)) ?_ ?_
      · exact ⟨S, Nat.zero_le _, by simp only [sumT]; omega⟩
      · clear S
        rintro i h ⟨S, h1, h2⟩
        all_goals (repeat' (first | refine K_seq ?_ | refine k_cond rfl ?_ | refine K_skip ?_ | refine K_exit ?_ | refine k_block ?_ | refine K_scope ?_ | (refine K_region (id := 4) ?_; (first | refine cT ?_ | refine cF ?_ | (refine cS ?_ ?_ <;> intro hc)) <;> (refine KO_nil ?_)) | (refine K_region (id := 5) ?_; refine mv ?_; (first | refine ixB S ?_ | refine ixS S rfl rfl ?_); (first | refine lB S rfl rfl ?_ | refine lES S rfl rfl ?_ | refine lEB S ?_ | refine lH S ?_); (refine al S ?_; clear S; intro b h S); refine mv ?_; (first | (refine sB S rfl rfl ?_; clear S; intro h S) | (refine sE S rfl rfl ?_; clear S; intro h S)); refine KO_nil ?_) | (refine K_region (id := 6) ?_; (first | refine lB S rfl rfl ?_ | refine lES S rfl rfl ?_ | refine lEB S ?_ | refine lH S ?_)) | (refine K_region (id := 11) ?_; refine mv ?_; refine mv ?_; refine mv ?_; refine KO_nil ?_)))
        · (try simp only [Int.toNat_natCast] at *)
          have hi : i < l.length := by omega
          have b2 := tsize_le (tb l i)
          have b1 := sumT_le l i
          have z1 : sumT l (i + 1) = sumT l i + tsize (tb l i) := rfl
          (refine KO_fn rfl rfl rfl rfl rfl ((size_ok S.wf (tb l i)).mono ?_); rintro _ h ⟨rfl, x⟩) <;> (replace S := S.join0 x; clear x; refine mv ?_; refine KO_nil ?_)
          all_goals (repeat' (first | refine K_seq ?_ | refine k_cond rfl ?_ | refine K_skip ?_ | refine K_exit ?_ | refine k_block ?_ | refine K_scope ?_ | (refine K_region (id := 7) ?_; refine mv ?_; refine mv ?_; (first | refine cT ?_ | refine cF ?_ | (refine cS ?_ ?_ <;> intro hc)) <;> (refine KO_nil ?_)) | (refine K_region (id := 8) ?_; refine mv ?_; refine mv ?_; refine mv ?_; refine mv ?_; refine mv ?_; refine KO_nil ?_) | (refine K_region (id := 9) ?_; refine mv ?_; refine mv ?_; (first | refine sb ?_ | refine vl ?_); refine mv ?_; refine KO_nil ?_) | (refine K_region (id := 10) ?_; (first | refine ad ?_ | refine vl ?_); refine mv ?_; refine KO_nil ?_)))
          · refine K_ret ⟨_, rfl, ?_⟩
            obtain ⟨k, hk⟩ := Int.eq_ofNat_of_zero_le h2
            exact ⟨i, s - sumT l i, true, rfl, .inl ⟨rfl, i, k, rfl, hk, hq, hi, by omega, by omega⟩, S.drop⟩
          · refine ⟨i + 1, ?_, ?_, (by repeat (first | exact Ks.le_nil _ | refine Ks.le_cons rfl ?_ | refine Ks.le_int ?_))⟩
            · show l.length - (i + 1) < l.length - i; omega
            · exact ⟨S.drop, by omega, by simp only [sumT]; omega⟩
        · refine K_ret ⟨_, rfl, ?_⟩
          refine ⟨0, 0, false, rfl, .inr ⟨rfl, rfl, rfl, fun j k q => ?_⟩, S⟩
          obtain ⟨-, q2, q3, q4⟩ := q
          have hil : i = l.length := by omega
          subst hil
          have := sumT_mono l (show j + 1 ≤ l.length by omega)
          simp only [sumT] at this
          omega
    · refine K_ret ⟨_, rfl, ?_⟩
      exact ⟨0, 0, false, rfl, .inr ⟨rfl, rfl, rfl, fun i k q => hq q.1⟩, S⟩

def PairR (l : List Tab) (a b : Int) (t : Tab) (x y : Int) (f : Bool) : Prop := (f = true ∧ ∃ i k m : Nat, t = tb l i ∧ x = k ∧ y = m ∧ WhereI l a i k ∧ WhereI l b i m) ∨ (f = false ∧ t = default ∧ x = 0 ∧ y = 0 ∧ ∀ i k m, WhereI l a i k → ¬ WhereI l b i m)
theorem pair_ok {h0 : AH} (w : WfH h0) (v : Value) (l : List Tab) (H : HallR h0 v l) (a b : Int) (ha : a ≤ 9223372036854775807) (hb : b ≤ 9223372036854775807) :
    Fn Tryz.prog Xh 92 [v, .int .i64 a, .int .i64 b] h0 (fun r h' => ∃ t x y f, r = .tuple #[tabV t, .int .i64 x, .int .i64 y, .bool f] ∧ PairR l a b t x y f ∧ Hs h0 h' []) := by
  have S := Hs.start w
  have hl := H.len
  have hr := H.rd
  refine Fn_K rfl Tryz.func92 rfl rfl ?_
  all_goals (repeat' (first | refine K_seq ?_ | refine k_cond rfl ?_ | refine K_skip ?_ | refine K_exit ?_ | refine k_block ?_ | refine K_scope ?_ | (refine K_region (id := 0) ?_; (refine al S ?_; clear S; intro b h S); refine mv ?_; refine mv ?_; refine mv ?_; refine KO_nil ?_) | (refine K_region (id := 1) ?_; refine mv ?_; refine mv ?_)))
  obtain ⟨bt, hnm⟩ : ∃ x, x = b := ⟨_, rfl⟩; subst hnm
  (refine KO_fn rfl rfl rfl rfl rfl ((where_ok S.wf v l (H.ext w S.ext) a ha).mono ?_); rintro _ h ⟨_, _, _, rfl, ⟨rfl, i, k, rfl, rfl, w1⟩ | ⟨rfl, rfl, rfl, w1⟩, x⟩) <;> (replace S := S.join0 x; clear x; refine mv ?_; refine vl ?_; refine vl ?_; refine vl ?_; refine mv ?_; refine mv ?_; refine mv ?_; refine KO_nil ?_)
  all_goals (all_goals (repeat' (first | refine K_seq ?_ | refine k_cond rfl ?_ | refine K_skip ?_ | refine K_exit ?_ | refine k_block ?_ | refine K_scope ?_ | (refine K_region (id := 2) ?_; refine mv ?_; refine mv ?_))))
  all_goals ((refine KO_fn rfl rfl rfl rfl rfl ((where_ok S.wf v l (H.ext w S.ext) b hb).mono ?_); rintro _ h ⟨_, _, _, rfl, ⟨rfl, j, m, rfl, rfl, w2⟩ | ⟨rfl, rfl, rfl, w2⟩, x⟩) <;> (replace S := S.join0 x; clear x; refine mv ?_; refine vl ?_; refine vl ?_; refine vl ?_; refine mv ?_; refine mv ?_; refine mv ?_; refine KO_nil ?_))
  · have hi := w1.2.1
    all_goals (repeat' (first | refine K_seq ?_ | refine k_cond rfl ?_ | refine K_skip ?_ | refine K_exit ?_ | refine k_block ?_ | refine K_scope ?_ | (refine K_region (id := 3) ?_; refine mv ?_; refine vl ?_; refine mv ?_; (first | refine off ?_ | refine mv ?_); (first | refine off ?_ | refine vl ?_); refine vl ?_; refine mv ?_; (first | refine off ?_ | refine mv ?_); (first | refine off ?_ | refine mv ?_); (first | refine off ?_ | (first | refine cT ?_ | refine cF ?_ | (refine cS ?_ ?_ <;> intro hc))) <;> (refine vl ?_; refine KO_nil ?_)) | (refine K_region (id := 4) ?_; refine vl ?_; (first | (refine sB S rfl rfl ?_; clear S; intro h S) | (refine sE S rfl rfl ?_; clear S; intro h S)); refine mv ?_; refine mv ?_; refine mv ?_; refine KO_nil ?_) | (refine K_region (id := 5) ?_; refine mv ?_; refine mv ?_; (first | refine ixB S ?_ | refine ixS S rfl rfl ?_); (first | refine lB S rfl rfl ?_ | refine lES S rfl rfl ?_ | refine lEB S ?_ | refine lH S ?_); refine mv ?_; refine mv ?_; (first | (refine sB S rfl rfl ?_; clear S; intro h S) | (refine sE S rfl rfl ?_; clear S; intro h S)); refine mv ?_; refine mv ?_; refine mv ?_; refine KO_nil ?_)))
    · refine K_ret ⟨_, ret_cell S rfl (by first | exact .here | exact .there .here | exact .there (.there .here)) (by exact rfl) (by exact rfl), ?_⟩
      refine ⟨default, 0, 0, false, rfl, .inr ⟨rfl, rfl, rfl, rfl, fun i' k' m' q1 q2 => ?_⟩, S.drop⟩
      obtain ⟨rfl, rfl⟩ := w1.unique q1
      obtain ⟨rfl, rfl⟩ := w2.unique q2
      exact hc rfl
    · have hij : i = j := by omega
      subst hij
      refine K_ret ⟨_, ret_cell S rfl (by first | exact .here | exact .there .here | exact .there (.there .here)) (by exact rfl) (by exact rfl), ?_⟩
      exact ⟨tb l i, k, m, true, rfl, .inl ⟨rfl, i, k, m, rfl, rfl, rfl, w1, w2⟩, S.drop⟩
  · all_goals (repeat' (first | refine K_seq ?_ | refine k_cond rfl ?_ | refine K_skip ?_ | refine K_exit ?_ | refine k_block ?_ | refine K_scope ?_ | (refine K_region (id := 3) ?_; refine mv ?_; refine vl ?_; refine mv ?_; (first | refine off ?_ | refine mv ?_); (first | refine off ?_ | refine vl ?_); refine vl ?_; refine mv ?_; (first | refine off ?_ | refine mv ?_); (first | refine off ?_ | refine mv ?_); (first | refine off ?_ | (first | refine cT ?_ | refine cF ?_ | (refine cS ?_ ?_ <;> intro hc))) <;> (refine vl ?_; refine KO_nil ?_)) | (refine K_region (id := 4) ?_; refine vl ?_; (first | (refine sB S rfl rfl ?_; clear S; intro h S) | (refine sE S rfl rfl ?_; clear S; intro h S)); refine mv ?_; refine mv ?_; refine mv ?_; refine KO_nil ?_) | (refine K_region (id := 5) ?_; refine mv ?_; refine mv ?_; (first | refine ixB S ?_ | refine ixS S rfl rfl ?_); (first | refine lB S rfl rfl ?_ | refine lES S rfl rfl ?_ | refine lEB S ?_ | refine lH S ?_); refine mv ?_; refine mv ?_; (first | (refine sB S rfl rfl ?_; clear S; intro h S) | (refine sE S rfl rfl ?_; clear S; intro h S)); refine mv ?_; refine mv ?_; refine mv ?_; refine KO_nil ?_)))
    refine K_ret ⟨_, ret_cell S rfl (by first | exact .here | exact .there .here | exact .there (.there .here)) (by exact rfl) (by exact rfl), ?_⟩
    exact ⟨default, 0, 0, false, rfl, .inr ⟨rfl, rfl, rfl, rfl, fun i' k' m' q1 q2 => w2 _ _ q2⟩, S.drop⟩
  · all_goals (repeat' (first | refine K_seq ?_ | refine k_cond rfl ?_ | refine K_skip ?_ | refine K_exit ?_ | refine k_block ?_ | refine K_scope ?_ | (refine K_region (id := 3) ?_; refine mv ?_; refine vl ?_; refine mv ?_; (first | refine off ?_ | refine mv ?_); (first | refine off ?_ | refine vl ?_); refine vl ?_; refine mv ?_; (first | refine off ?_ | refine mv ?_); (first | refine off ?_ | refine mv ?_); (first | refine off ?_ | (first | refine cT ?_ | refine cF ?_ | (refine cS ?_ ?_ <;> intro hc))) <;> (refine vl ?_; refine KO_nil ?_)) | (refine K_region (id := 4) ?_; refine vl ?_; (first | (refine sB S rfl rfl ?_; clear S; intro h S) | (refine sE S rfl rfl ?_; clear S; intro h S)); refine mv ?_; refine mv ?_; refine mv ?_; refine KO_nil ?_) | (refine K_region (id := 5) ?_; refine mv ?_; refine mv ?_; (first | refine ixB S ?_ | refine ixS S rfl rfl ?_); (first | refine lB S rfl rfl ?_ | refine lES S rfl rfl ?_ | refine lEB S ?_ | refine lH S ?_); refine mv ?_; refine mv ?_; (first | (refine sB S rfl rfl ?_; clear S; intro h S) | (refine sE S rfl rfl ?_; clear S; intro h S)); refine mv ?_; refine mv ?_; refine mv ?_; refine KO_nil ?_)))
    refine K_ret ⟨_, ret_cell S rfl (by first | exact .here | exact .there .here | exact .there (.there .here)) (by exact rfl) (by exact rfl), ?_⟩
    exact ⟨default, 0, 0, false, rfl, .inr ⟨rfl, rfl, rfl, rfl, fun i' k' m' q1 q2 => w1 _ _ q1⟩, S.drop⟩
  · all_goals (repeat' (first | refine K_seq ?_ | refine k_cond rfl ?_ | refine K_skip ?_ | refine K_exit ?_ | refine k_block ?_ | refine K_scope ?_ | (refine K_region (id := 3) ?_; refine mv ?_; refine vl ?_; refine mv ?_; (first | refine off ?_ | refine mv ?_); (first | refine off ?_ | refine vl ?_); refine vl ?_; refine mv ?_; (first | refine off ?_ | refine mv ?_); (first | refine off ?_ | refine mv ?_); (first | refine off ?_ | (first | refine cT ?_ | refine cF ?_ | (refine cS ?_ ?_ <;> intro hc))) <;> (refine vl ?_; refine KO_nil ?_)) | (refine K_region (id := 4) ?_; refine vl ?_; (first | (refine sB S rfl rfl ?_; clear S; intro h S) | (refine sE S rfl rfl ?_; clear S; intro h S)); refine mv ?_; refine mv ?_; refine mv ?_; refine KO_nil ?_) | (refine K_region (id := 5) ?_; refine mv ?_; refine mv ?_; (first | refine ixB S ?_ | refine ixS S rfl rfl ?_); (first | refine lB S rfl rfl ?_ | refine lES S rfl rfl ?_ | refine lEB S ?_ | refine lH S ?_); refine mv ?_; refine mv ?_; (first | (refine sB S rfl rfl ?_; clear S; intro h S) | (refine sE S rfl rfl ?_; clear S; intro h S)); refine mv ?_; refine mv ?_; refine mv ?_; refine KO_nil ?_)))
    refine K_ret ⟨_, ret_cell S rfl (by first | exact .here | exact .there .here | exact .there (.there .here)) (by exact rfl) (by exact rfl), ?_⟩
    exact ⟨default, 0, 0, false, rfl, .inr ⟨rfl, rfl, rfl, rfl, fun i' k' m' q1 q2 => w1 _ _ q1⟩, S.drop⟩
/-- Of two seats of one table P holds. -/
def BothP (P : Tab → Int → Int → Prop) (l : List Tab) (a b : Int) : Prop := ∃ i k m : Nat, WhereI l a i k ∧ WhereI l b i m ∧ P (tb l i) k m
theorem hallBeside_ok {h0 : AH} (w : WfH h0) (v : Value) (l : List Tab) (H : HallR h0 v l) (a b : Int) (ha : a ≤ 9223372036854775807) (hb : b ≤ 9223372036854775807) :
    Fn Tryz.prog Xh 44 [v, .int .i64 a, .int .i64 b] h0 (fun r h' => BoolIs r (BothP besideP l a b) ∧ Hs h0 h' []) := by
  have S := Hs.start w
  refine Fn_K rfl Tryz.func44 rfl rfl ?_
  all_goals (repeat' (first | refine K_seq ?_ | refine k_cond rfl ?_ | refine K_skip ?_ | refine K_exit ?_ | refine k_block ?_ | refine K_scope ?_ | (refine K_region (id := 0) ?_; refine mv ?_; refine KO_nil ?_) | (refine K_region (id := 1) ?_; refine mv ?_; refine mv ?_; refine mv ?_; skip)))
  (refine KO_fn rfl rfl rfl rfl rfl ((pair_ok S.wf v l H a b ha hb).mono ?_); rintro _ h ⟨_, _, _, _, rfl, ⟨rfl, i, k, m, rfl, rfl, rfl, w1, w2⟩ | ⟨rfl, rfl, rfl, rfl, w1⟩, x⟩) <;> (replace S := S.join0 x; clear x; refine mv ?_; refine vl ?_; refine vl ?_; refine vl ?_; refine vl ?_; (refine al S ?_; clear S; intro b h S); (first | (refine sB S rfl rfl ?_; clear S; intro h S) | (refine sE S rfl rfl ?_; clear S; intro h S)); refine mv ?_; refine mv ?_; refine mv ?_; refine KO_nil ?_)
  · all_goals (repeat' (first | refine K_seq ?_ | refine k_cond rfl ?_ | refine K_skip ?_ | refine K_exit ?_ | refine k_block ?_ | refine K_scope ?_ | (refine K_region (id := 2) ?_; refine mv ?_; refine mv ?_; (first | refine off ?_ | (first | refine lB S rfl rfl ?_ | refine lES S rfl rfl ?_ | refine lEB S ?_ | refine lH S ?_)); (first | refine off ?_ | refine mv ?_); (first | refine off ?_ | refine mv ?_); (first | (refine off ?_; refine vl ?_; refine mv ?_; refine KO_nil ?_) | skip))))
    have t1 := tsize_le (tb l i)
    have k1 := w1.2.2.1
    have k2 := w2.2.2.1
    (refine KO_fn rfl rfl rfl rfl rfl ((beside_ok S.wf (tb l i) k m w1.sz.b (by omega) (by omega)).mono ?_); rintro _ h ⟨⟨rfl, hq⟩ | ⟨rfl, hq⟩, x⟩) <;> (replace S := S.join0 x; clear x; refine vl ?_; refine mv ?_; refine KO_nil ?_)
    all_goals (repeat' (first | refine K_seq ?_ | refine k_cond rfl ?_ | refine K_skip ?_ | refine K_exit ?_ | refine k_block ?_ | refine K_scope ?_))
    all_goals (refine K_ret ⟨_, rfl, ?_⟩)
    · exact ⟨.inl ⟨rfl, i, k, m, w1, w2, hq⟩, S.drop⟩
    · refine ⟨.inr ⟨rfl, fun ⟨i', k', m', q1, q2, q3⟩ => ?_⟩, S.drop⟩
      obtain ⟨rfl, rfl⟩ := w1.unique q1
      obtain ⟨-, rfl⟩ := w2.unique q2
      exact hq q3
  · all_goals (repeat' (first | refine K_seq ?_ | refine k_cond rfl ?_ | refine K_skip ?_ | refine K_exit ?_ | refine k_block ?_ | refine K_scope ?_ | (refine K_region (id := 2) ?_; refine mv ?_; refine mv ?_; (first | refine off ?_ | (first | refine lB S rfl rfl ?_ | refine lES S rfl rfl ?_ | refine lEB S ?_ | refine lH S ?_)); (first | refine off ?_ | refine mv ?_); (first | refine off ?_ | refine mv ?_); (first | (refine off ?_; refine vl ?_; refine mv ?_; refine KO_nil ?_) | skip))))
    refine K_ret ⟨_, rfl, ?_⟩
    exact ⟨.inr ⟨rfl, fun ⟨i', k', m', q1, q2, q3⟩ => w1 _ _ _ q1 q2⟩, S.drop⟩
theorem hallAcross_ok {h0 : AH} (w : WfH h0) (v : Value) (l : List Tab) (H : HallR h0 v l) (a b : Int) (ha : a ≤ 9223372036854775807) (hb : b ≤ 9223372036854775807) :
    Fn Tryz.prog Xh 45 [v, .int .i64 a, .int .i64 b] h0 (fun r h' => BoolIs r (BothP acrossP l a b) ∧ Hs h0 h' []) := by
  have S := Hs.start w
  refine Fn_K rfl Tryz.func45 rfl rfl ?_
  all_goals (repeat' (first | refine K_seq ?_ | refine k_cond rfl ?_ | refine K_skip ?_ | refine K_exit ?_ | refine k_block ?_ | refine K_scope ?_ | (refine K_region (id := 0) ?_; refine mv ?_; refine KO_nil ?_) | (refine K_region (id := 1) ?_; refine mv ?_; refine mv ?_; refine mv ?_; skip)))
  (refine KO_fn rfl rfl rfl rfl rfl ((pair_ok S.wf v l H a b ha hb).mono ?_); rintro _ h ⟨_, _, _, _, rfl, ⟨rfl, i, k, m, rfl, rfl, rfl, w1, w2⟩ | ⟨rfl, rfl, rfl, rfl, w1⟩, x⟩) <;> (replace S := S.join0 x; clear x; refine mv ?_; refine vl ?_; refine vl ?_; refine vl ?_; refine vl ?_; (refine al S ?_; clear S; intro b h S); (first | (refine sB S rfl rfl ?_; clear S; intro h S) | (refine sE S rfl rfl ?_; clear S; intro h S)); refine mv ?_; refine mv ?_; refine mv ?_; refine KO_nil ?_)
  · all_goals (repeat' (first | refine K_seq ?_ | refine k_cond rfl ?_ | refine K_skip ?_ | refine K_exit ?_ | refine k_block ?_ | refine K_scope ?_ | (refine K_region (id := 2) ?_; refine mv ?_; refine mv ?_; (first | refine off ?_ | (first | refine lB S rfl rfl ?_ | refine lES S rfl rfl ?_ | refine lEB S ?_ | refine lH S ?_)); (first | refine off ?_ | refine mv ?_); (first | refine off ?_ | refine mv ?_); (first | (refine off ?_; refine vl ?_; refine mv ?_; refine KO_nil ?_) | skip))))
    have t1 := tsize_le (tb l i)
    have k1 := w1.2.2.1
    have k2 := w2.2.2.1
    (refine KO_fn rfl rfl rfl rfl rfl ((across_ok S.wf (tb l i) k m w1.sz.b (by omega) (by omega)).mono ?_); rintro _ h ⟨⟨rfl, hq⟩ | ⟨rfl, hq⟩, x⟩) <;> (replace S := S.join0 x; clear x; refine vl ?_; refine mv ?_; refine KO_nil ?_)
    all_goals (repeat' (first | refine K_seq ?_ | refine k_cond rfl ?_ | refine K_skip ?_ | refine K_exit ?_ | refine k_block ?_ | refine K_scope ?_))
    all_goals (refine K_ret ⟨_, rfl, ?_⟩)
    · exact ⟨.inl ⟨rfl, i, k, m, w1, w2, hq⟩, S.drop⟩
    · refine ⟨.inr ⟨rfl, fun ⟨i', k', m', q1, q2, q3⟩ => ?_⟩, S.drop⟩
      obtain ⟨rfl, rfl⟩ := w1.unique q1
      obtain ⟨-, rfl⟩ := w2.unique q2
      exact hq q3
  · all_goals (repeat' (first | refine K_seq ?_ | refine k_cond rfl ?_ | refine K_skip ?_ | refine K_exit ?_ | refine k_block ?_ | refine K_scope ?_ | (refine K_region (id := 2) ?_; refine mv ?_; refine mv ?_; (first | refine off ?_ | (first | refine lB S rfl rfl ?_ | refine lES S rfl rfl ?_ | refine lEB S ?_ | refine lH S ?_)); (first | refine off ?_ | refine mv ?_); (first | refine off ?_ | refine mv ?_); (first | (refine off ?_; refine vl ?_; refine mv ?_; refine KO_nil ?_) | skip))))
    refine K_ret ⟨_, rfl, ?_⟩
    exact ⟨.inr ⟨rfl, fun ⟨i', k', m', q1, q2, q3⟩ => w1 _ _ _ q1 q2⟩, S.drop⟩
theorem hallNear_ok {h0 : AH} (w : WfH h0) (v : Value) (l : List Tab) (H : HallR h0 v l) (a b : Int) (ha : a ≤ 9223372036854775807) (hb : b ≤ 9223372036854775807) :
    Fn Tryz.prog Xh 43 [v, .int .i64 a, .int .i64 b] h0 (fun r h' => BoolIs r (BothP nearP l a b) ∧ Hs h0 h' []) := by
  have S := Hs.start w
  refine Fn_K rfl Tryz.func43 rfl rfl ?_
  all_goals (repeat' (first | refine K_seq ?_ | refine k_cond rfl ?_ | refine K_skip ?_ | refine K_exit ?_ | refine k_block ?_ | refine K_scope ?_ | (refine K_region (id := 0) ?_; refine mv ?_; refine KO_nil ?_) | (refine K_region (id := 1) ?_; refine mv ?_; refine mv ?_; refine mv ?_; skip)))
  (refine KO_fn rfl rfl rfl rfl rfl ((pair_ok S.wf v l H a b ha hb).mono ?_); rintro _ h ⟨_, _, _, _, rfl, ⟨rfl, i, k, m, rfl, rfl, rfl, w1, w2⟩ | ⟨rfl, rfl, rfl, rfl, w1⟩, x⟩) <;> (replace S := S.join0 x; clear x; refine mv ?_; refine vl ?_; refine vl ?_; refine vl ?_; refine vl ?_; (refine al S ?_; clear S; intro b h S); (first | (refine sB S rfl rfl ?_; clear S; intro h S) | (refine sE S rfl rfl ?_; clear S; intro h S)); refine mv ?_; refine mv ?_; refine mv ?_; refine KO_nil ?_)
  · all_goals (repeat' (first | refine K_seq ?_ | refine k_cond rfl ?_ | refine K_skip ?_ | refine K_exit ?_ | refine k_block ?_ | refine K_scope ?_ | (refine K_region (id := 2) ?_; refine mv ?_; refine mv ?_; (first | refine off ?_ | (first | refine lB S rfl rfl ?_ | refine lES S rfl rfl ?_ | refine lEB S ?_ | refine lH S ?_)); (first | refine off ?_ | refine mv ?_); (first | refine off ?_ | refine mv ?_); (first | (refine off ?_; refine vl ?_; refine mv ?_; refine KO_nil ?_) | skip))))
    have t1 := tsize_le (tb l i)
    have k1 := w1.2.2.1
    have k2 := w2.2.2.1
    (refine KO_fn rfl rfl rfl rfl rfl ((near_ok S.wf (tb l i) k m w1.sz.b (by omega) (by omega)).mono ?_); rintro _ h ⟨⟨rfl, hq⟩ | ⟨rfl, hq⟩, x⟩) <;> (replace S := S.join0 x; clear x; refine vl ?_; refine mv ?_; refine KO_nil ?_)
    all_goals (repeat' (first | refine K_seq ?_ | refine k_cond rfl ?_ | refine K_skip ?_ | refine K_exit ?_ | refine k_block ?_ | refine K_scope ?_))
    all_goals (refine K_ret ⟨_, rfl, ?_⟩)
    · exact ⟨.inl ⟨rfl, i, k, m, w1, w2, hq⟩, S.drop⟩
    · refine ⟨.inr ⟨rfl, fun ⟨i', k', m', q1, q2, q3⟩ => ?_⟩, S.drop⟩
      obtain ⟨rfl, rfl⟩ := w1.unique q1
      obtain ⟨-, rfl⟩ := w2.unique q2
      exact hq q3
  · all_goals (repeat' (first | refine K_seq ?_ | refine k_cond rfl ?_ | refine K_skip ?_ | refine K_exit ?_ | refine k_block ?_ | refine K_scope ?_ | (refine K_region (id := 2) ?_; refine mv ?_; refine mv ?_; (first | refine off ?_ | (first | refine lB S rfl rfl ?_ | refine lES S rfl rfl ?_ | refine lEB S ?_ | refine lH S ?_)); (first | refine off ?_ | refine mv ?_); (first | refine off ?_ | refine mv ?_); (first | (refine off ?_; refine vl ?_; refine mv ?_; refine KO_nil ?_) | skip))))
    refine K_ret ⟨_, rfl, ?_⟩
    exact ⟨.inr ⟨rfl, fun ⟨i', k', m', q1, q2, q3⟩ => w1 _ _ _ q1 q2⟩, S.drop⟩

def DistR (l : List Tab) (a b d : Int) (f : Bool) : Prop := (f = true ∧ ∃ (i k m : Nat) (e : Nat), WhereI l a i k ∧ WhereI l b i m ∧ d = e ∧ IsDist (nearP (tb l i)) (tsize (tb l i)).toNat k e m) ∨ (f = false ∧ d = 0 ∧ ∀ i k m e, WhereI l a i k → WhereI l b i m → ¬ IsDist (nearP (tb l i)) (tsize (tb l i)).toNat k e m)
theorem hallDistance_ok {h0 : AH} (w : WfH h0) (v : Value) (l : List Tab) (H : HallR h0 v l) (a b : Int) (ha : a ≤ 9223372036854775807) (hb : b ≤ 9223372036854775807) :
    Fn Tryz.prog Xh 37 [v, .int .i64 a, .int .i64 b] h0 (fun r h' => ∃ d f, r = .tuple #[.int .i64 d, .bool f] ∧ DistR l a b d f ∧ Hs h0 h' []) := by
  have S := Hs.start w
  refine Fn_K rfl Tryz.func37 rfl rfl ?_
  all_goals (repeat' (first | refine K_seq ?_ | refine k_cond rfl ?_ | refine K_skip ?_ | refine K_exit ?_ | refine k_block ?_ | refine K_scope ?_ | (refine K_region (id := 0) ?_; refine mv ?_; refine mv ?_; refine KO_nil ?_) | (refine K_region (id := 1) ?_; refine mv ?_; refine mv ?_; refine mv ?_; skip)))
  (refine KO_fn rfl rfl rfl rfl rfl ((pair_ok S.wf v l H a b ha hb).mono ?_); rintro _ h ⟨_, _, _, _, rfl, ⟨rfl, i, k, m, rfl, rfl, rfl, w1, w2⟩ | ⟨rfl, rfl, rfl, rfl, w1⟩, x⟩) <;> (replace S := S.join0 x; clear x; refine mv ?_; refine vl ?_; refine vl ?_; refine vl ?_; refine vl ?_; (refine al S ?_; clear S; intro b h S); (first | (refine sB S rfl rfl ?_; clear S; intro h S) | (refine sE S rfl rfl ?_; clear S; intro h S)); refine mv ?_; refine mv ?_; refine mv ?_; refine KO_nil ?_)
  · all_goals (repeat' (first | refine K_seq ?_ | refine k_cond rfl ?_ | refine K_skip ?_ | refine K_exit ?_ | refine k_block ?_ | refine K_scope ?_ | (refine K_region (id := 2) ?_; refine mv ?_; refine vl ?_; refine KO_nil ?_) | (refine K_region (id := 3) ?_; refine mv ?_; refine mv ?_; refine KO_nil ?_) | (refine K_region (id := 4) ?_; (first | refine lB S rfl rfl ?_ | refine lES S rfl rfl ?_ | refine lEB S ?_ | refine lH S ?_); refine mv ?_)))
    have t1 := tsize_le (tb l i)
    have k1 := w1.2.2.1
    have k2 := w2.2.2.1
    obtain ⟨n, hn⟩ := Int.eq_ofNat_of_zero_le t1.1
    have hnn : (tsize (tb l i)).toNat = n := by omega
    (refine KO_fn rfl rfl rfl rfl rfl ((steps_ok S.wf (tb l i) k n w1.sz.b hn (by omega) (by omega)).mono ?_); rintro vd h ⟨ld, hd, x⟩) <;> (replace S := S.join1 x; clear x; have hdl := hd.1; refine mv ?_; (first | refine ixB S ?_ | refine ixS S rfl rfl ?_); (first | refine lB S rfl rfl ?_ | refine lES S rfl rfl ?_ | refine lEB S ?_ | refine lH S ?_); refine mv ?_; refine KO_nil ?_)
    all_goals (repeat' (first | refine K_seq ?_ | refine k_cond rfl ?_ | refine K_skip ?_ | refine K_exit ?_ | refine k_block ?_ | refine K_scope ?_ | (refine K_region (id := 5) ?_; refine mv ?_; (first | refine cT ?_ | refine cF ?_ | (refine cS ?_ ?_ <;> intro hc)) <;> (refine KO_nil ?_)) | (refine K_region (id := 6) ?_; refine mv ?_; refine mv ?_; refine mv ?_; refine KO_nil ?_) | (refine K_region (id := 7) ?_; refine mv ?_; refine mv ?_; refine KO_nil ?_)))
    all_goals (try simp only [Int.toNat_natCast] at *)
    · refine K_ret ⟨_, rfl, ?_⟩
      rcases hd.2 m (by omega) with ⟨g, -⟩ | ⟨e, g1, g2⟩
      · omega
      · exact ⟨_, true, rfl, .inl ⟨rfl, i, k, m, e, w1, w2, g1, by rw [hnn]; exact g2⟩, S.drop⟩
    · refine K_ret ⟨_, rfl, ?_⟩
      refine ⟨0, false, rfl, .inr ⟨rfl, rfl, fun i' k' m' e' q1 q2 q3 => ?_⟩, S.drop⟩
      obtain ⟨rfl, rfl⟩ := w1.unique q1
      obtain ⟨-, rfl⟩ := w2.unique q2
      rw [hnn] at q3
      rcases hd.2 m (by omega) with ⟨-, g⟩ | ⟨e, g1, g2⟩
      · exact g _ q3.1
      · omega
  · all_goals (repeat' (first | refine K_seq ?_ | refine k_cond rfl ?_ | refine K_skip ?_ | refine K_exit ?_ | refine k_block ?_ | refine K_scope ?_ | (refine K_region (id := 2) ?_; refine mv ?_; refine vl ?_; refine KO_nil ?_) | (refine K_region (id := 3) ?_; refine mv ?_; refine mv ?_; refine KO_nil ?_)))
    refine K_ret ⟨_, rfl, ?_⟩
    exact ⟨0, false, rfl, .inr ⟨rfl, rfl, fun i' k' m' e' q1 q2 q3 => w1 _ _ _ q1 q2⟩, S.drop⟩

def LevR (l : List Tab) (a v : Int) : Prop := (∃ (i k : Nat) (ld : List Int), WhereI l a i k ∧ DistL (nearP (tb l i)) (tsize (tb l i)).toNat (tHon (tb l i)).toNat ld ∧ v = (lvl (tsize (tb l i)).toNat ld).getD k default) ∨ (v = 0 ∧ ∀ i k, ¬ WhereI l a i k)
theorem hallLevel_ok {h0 : AH} (w : WfH h0) (v : Value) (l : List Tab) (H : HallR h0 v l) (a : Int) (ha : a ≤ 9223372036854775807) :
    Fn Tryz.prog Xh 35 [v, .int .i64 a] h0 (fun r h' => ∃ d, r = .int .i64 d ∧ LevR l a d ∧ Hs h0 h' []) := by
  have S := Hs.start w
  have hr := H.rd
  have hl := H.len
  refine Fn_K rfl Tryz.func35 rfl rfl ?_
  all_goals (repeat' (first | refine K_seq ?_ | refine k_cond rfl ?_ | refine K_skip ?_ | refine K_exit ?_ | refine k_block ?_ | refine K_scope ?_ | (refine K_region (id := 0) ?_; refine mv ?_; refine KO_nil ?_) | (refine K_region (id := 1) ?_; refine mv ?_; refine mv ?_)))
  (refine KO_fn rfl rfl rfl rfl rfl ((where_ok S.wf v l H a ha).mono ?_); rintro _ h ⟨_, _, _, rfl, ⟨rfl, i, k, rfl, rfl, w1⟩ | ⟨rfl, rfl, rfl, w1⟩, x⟩) <;> (replace S := S.join0 x; clear x; refine mv ?_; refine vl ?_; refine vl ?_; refine vl ?_; refine mv ?_; refine mv ?_; refine mv ?_; refine KO_nil ?_)
  · have hi := w1.2.1
    have t1 := tsize_le (tb l i)
    have k1 := w1.2.2.1
    obtain ⟨n, hn⟩ := Int.eq_ofNat_of_zero_le t1.1
    have hnn : (tsize (tb l i)).toNat = n := by omega
    all_goals (repeat' (first | refine K_seq ?_ | refine k_cond rfl ?_ | refine K_skip ?_ | refine K_exit ?_ | refine k_block ?_ | refine K_scope ?_ | (refine K_region (id := 2) ?_; refine mv ?_; refine vl ?_; refine KO_nil ?_) | (refine K_region (id := 3) ?_; refine mv ?_; refine KO_nil ?_) | (refine K_region (id := 4) ?_; refine mv ?_; refine mv ?_; (first | refine ixB S ?_ | refine ixS S rfl rfl ?_); (first | refine lB S rfl rfl ?_ | refine lES S rfl rfl ?_ | refine lEB S ?_ | refine lH S ?_))))
    (try simp only [Int.toNat_natCast] at *)
    (refine KO_fn rfl rfl rfl rfl rfl ((levels_ok S.wf (tb l i) n w1.sz.b hn (by omega) (by omega)).mono ?_); rintro vd h ⟨ld, hd, x⟩) <;> (replace S := S.join1 x; clear x; have hdl := hd.1; have hdm : (lvl n ld).length = ld.length := List.length_map ..; refine mv ?_; (first | refine ixB S ?_ | refine ixS S rfl rfl ?_); (first | refine lB S rfl rfl ?_ | refine lES S rfl rfl ?_ | refine lEB S ?_ | refine lH S ?_); refine mv ?_; refine KO_nil ?_)
    all_goals (repeat' (first | refine K_seq ?_ | refine k_cond rfl ?_ | refine K_skip ?_ | refine K_exit ?_ | refine k_block ?_ | refine K_scope ?_))
    refine K_ret ⟨_, rfl, ?_⟩
    exact ⟨_, rfl, .inl ⟨i, k, ld, w1, by rw [hnn]; exact hd, by rw [hnn, Int.toNat_natCast]⟩, S.drop⟩
  · all_goals (repeat' (first | refine K_seq ?_ | refine k_cond rfl ?_ | refine K_skip ?_ | refine K_exit ?_ | refine k_block ?_ | refine K_scope ?_ | (refine K_region (id := 2) ?_; refine mv ?_; refine vl ?_; refine KO_nil ?_) | (refine K_region (id := 3) ?_; refine mv ?_; refine KO_nil ?_)))
    refine K_ret ⟨_, rfl, ?_⟩
    exact ⟨0, rfl, .inr ⟨rfl, w1⟩, S⟩

theorem index_ok {h0 : AH} (w : WfH h0) (v : Value) (l : List Int) (hr : RdL h0 v 1 eI l) (hl : l.length ≤ 1000000) (k : Int) : Fn Tryz.prog Xh 105 [v, .int .i64 k] h0 (fun r h' => IdxIs r (fun i => l.getD i default = k) l.length ∧ Hs h0 h' []) := by
  have S := Hs.start w
  refine Fn_K rfl Tryz.func105 rfl rfl ?_
  all_goals (repeat' (first | refine K_seq ?_ | refine k_cond rfl ?_ | refine K_skip ?_ | refine K_exit ?_ | refine k_block ?_ | refine K_scope ?_ | (refine K_region (id := 0) ?_; refine mv ?_; refine KO_nil ?_) | (refine K_region (id := 1) ?_; refine mv ?_; (first | refine lnB S ?_ | refine lnS S rfl rfl ?_); refine mv ?_; refine KO_nil ?_)))
  refine k_loop (σ := Nat) (fun i h' => Hs h0 h' [] ∧ i ≤ l.length ∧ ∀ j, j < i → ¬ l.getD j default = k) (fun i => l.length - i) (fun i => [(0, v), (1, .int .i64 k), (7, .int .i64 l.length), (8, .int .i64 i)]) 0 (by repeat (first | exact Ks.le_nil _ | refine Ks.le_cons rfl ?_ | refine Ks.le_int ?_)) ?_ ?_
  · exact ⟨S, Nat.zero_le _, fun j hj => absurd hj (Nat.not_lt_zero _)⟩
  clear S
  rintro i h ⟨S, h1, h2⟩
  all_goals (repeat' (first | refine K_seq ?_ | refine k_cond rfl ?_ | refine K_skip ?_ | refine K_exit ?_ | refine k_block ?_ | refine K_scope ?_ | (refine K_region (id := 2) ?_; (first | refine cT ?_ | refine cF ?_ | (refine cS ?_ ?_ <;> intro hc)) <;> (refine KO_nil ?_)) | (refine K_region (id := 3) ?_; refine mv ?_; refine mv ?_; refine KO_nil ?_) | (refine K_region (id := 4) ?_; refine mv ?_; refine mv ?_; refine mv ?_; (first | refine ixB S ?_ | refine ixS S rfl rfl ?_); (first | refine lB S rfl rfl ?_ | refine lES S rfl rfl ?_ | refine lEB S ?_ | refine lH S ?_); (first | refine cT ?_ | refine cF ?_ | (refine cS ?_ ?_ <;> intro hc)) <;> (refine KO_nil ?_)) | (refine K_region (id := 5) ?_; refine mv ?_; refine mv ?_; refine KO_nil ?_) | (refine K_region (id := 6) ?_; (first | refine ad ?_ | refine vl ?_); refine mv ?_; refine KO_nil ?_) | (refine K_region (id := 7) ?_; refine mv ?_; refine KO_nil ?_)))
  all_goals (try simp only [Int.toNat_natCast] at *)
  · refine K_ret ⟨_, rfl, ?_⟩
    exact ⟨.inl ⟨i, by omega, rfl, hc.symm, h2⟩, S⟩
  · refine ⟨i + 1, ?_, ?_, (by repeat (first | exact Ks.le_nil _ | refine Ks.le_cons rfl ?_ | refine Ks.le_int ?_))⟩
    · show l.length - (i + 1) < l.length - i; omega
    · refine ⟨S, by omega, fun j hj => ?_⟩
      rcases Nat.lt_or_ge j i with q | q
      · exact h2 j q
      · obtain rfl : j = i := by omega
        exact fun q => hc q.symm
  · refine K_ret ⟨_, rfl, ?_⟩
    exact ⟨.inr ⟨rfl, fun j hj => h2 j (by omega)⟩, S⟩
theorem containsI_ok {h0 : AH} (w : WfH h0) (v : Value) (l : List Int) (hr : RdL h0 v 1 eI l) (hl : l.length ≤ 1000000) (k : Int) : Fn Tryz.prog Xh 48 [v, .int .i64 k] h0 (fun r h' => BoolIs r (∃ i, i < l.length ∧ l.getD i default = k) ∧ Hs h0 h' []) := by
  have S := Hs.start w
  refine Fn_K rfl Tryz.func48 rfl rfl ?_
  all_goals (repeat' (first | refine K_seq ?_ | refine k_cond rfl ?_ | refine K_skip ?_ | refine K_exit ?_ | refine k_block ?_ | refine K_scope ?_ | (refine K_region (id := 0) ?_; refine mv ?_; refine KO_nil ?_) | (refine K_region (id := 1) ?_; refine mv ?_; refine mv ?_)))
  (refine KO_fn rfl rfl rfl rfl rfl ((index_ok S.wf v l hr hl k).mono ?_); rintro _ h ⟨⟨i, hi, rfl, hq, hn⟩ | ⟨rfl, hn⟩, x⟩) <;> (replace S := S.join0 x; clear x; (first | refine cT ?_ | refine cF ?_ | (refine cS ?_ ?_ <;> intro hc)) <;> (refine mv ?_; refine KO_nil ?_))
  all_goals (repeat' (first | refine K_seq ?_ | refine k_cond rfl ?_ | refine K_skip ?_ | refine K_exit ?_ | refine k_block ?_ | refine K_scope ?_))
  all_goals (try omega)
  all_goals (refine K_ret ⟨_, rfl, ?_⟩)
  · exact ⟨.inl ⟨rfl, i, hi, hq⟩, S⟩
  · exact ⟨.inr ⟨rfl, fun ⟨j, hj, hp⟩ => hn j hj hp⟩, S⟩
def OpenR (l : List Tab) (a : Int) : Prop := ∃ i k : Nat, WhereI l a i k ∧ openP (tb l i) k
theorem hallOpen_ok {h0 : AH} (w : WfH h0) (v : Value) (l : List Tab) (H : HallR h0 v l) (a : Int) (ha : a ≤ 9223372036854775807) :
    Fn Tryz.prog Xh 50 [v, .int .i64 a] h0 (fun r h' => BoolIs r (OpenR l a) ∧ Hs h0 h' []) := by
  have S := Hs.start w
  have hr := H.rd
  have hl := H.len
  refine Fn_K rfl Tryz.func50 rfl rfl ?_
  all_goals (repeat' (first | refine K_seq ?_ | refine k_cond rfl ?_ | refine K_skip ?_ | refine K_exit ?_ | refine k_block ?_ | refine K_scope ?_ | (refine K_region (id := 0) ?_; refine mv ?_; refine KO_nil ?_) | (refine K_region (id := 1) ?_; refine mv ?_; refine mv ?_)))
  (refine KO_fn rfl rfl rfl rfl rfl ((where_ok S.wf v l H a ha).mono ?_); rintro _ h ⟨_, _, _, rfl, ⟨rfl, i, k, rfl, rfl, w1⟩ | ⟨rfl, rfl, rfl, w1⟩, x⟩) <;> (replace S := S.join0 x; clear x; refine mv ?_; refine vl ?_; refine vl ?_; refine vl ?_; refine mv ?_; refine mv ?_; refine mv ?_; refine KO_nil ?_)
  · have hi := w1.2.1
    have ht := (H.ext w S.ext).tab i hi
    all_goals (repeat' (first | refine K_seq ?_ | refine k_cond rfl ?_ | refine K_skip ?_ | refine K_exit ?_ | refine k_block ?_ | refine K_scope ?_ | (refine K_region (id := 2) ?_; refine mv ?_; refine mv ?_; (first | refine off ?_ | refine mv ?_); (first | refine off ?_ | refine mv ?_); (first | refine off ?_ | (first | refine ixB S ?_ | refine ixS S rfl rfl ?_)); (first | refine off ?_ | (first | refine vl ?_ | refine fB S ?_ | refine fS S rfl rfl ?_ | refine fA ?_)); (first | refine off ?_ | (first | refine lB S rfl rfl ?_ | refine lES S rfl rfl ?_ | refine lEB S ?_ | refine lH S ?_)); (first | refine off ?_ | refine mv ?_); (first | (refine off ?_; refine vl ?_; refine mv ?_; refine KO_nil ?_) | skip))))
    (try simp only [Int.toNat_natCast] at *)
    (refine KO_fn rfl rfl rfl rfl rfl ((containsI_ok S.wf (tb l i).ov (tb l i).opn ht.1 (Nat.le_trans ht.2.2 (by omega)) k).mono ?_); rintro _ h ⟨⟨rfl, hq⟩ | ⟨rfl, hq⟩, x⟩) <;> (replace S := S.join0 x; clear x; refine vl ?_; refine mv ?_; refine KO_nil ?_)
    all_goals (repeat' (first | refine K_seq ?_ | refine k_cond rfl ?_ | refine K_skip ?_ | refine K_exit ?_ | refine k_block ?_ | refine K_scope ?_))
    all_goals (refine K_ret ⟨_, rfl, ?_⟩)
    · exact ⟨.inl ⟨rfl, i, k, w1, hq⟩, S⟩
    · refine ⟨.inr ⟨rfl, fun ⟨i', k', q1, q2⟩ => ?_⟩, S⟩
      obtain ⟨rfl, rfl⟩ := w1.unique q1
      exact hq q2
  · all_goals (repeat' (first | refine K_seq ?_ | refine k_cond rfl ?_ | refine K_skip ?_ | refine K_exit ?_ | refine k_block ?_ | refine K_scope ?_ | (refine K_region (id := 2) ?_; refine mv ?_; refine mv ?_; (first | refine off ?_ | refine mv ?_); (first | refine off ?_ | refine mv ?_); (first | refine off ?_ | (first | refine ixB S ?_ | refine ixS S rfl rfl ?_)); (first | refine off ?_ | (first | refine vl ?_ | refine fB S ?_ | refine fS S rfl rfl ?_ | refine fA ?_)); (first | refine off ?_ | (first | refine lB S rfl rfl ?_ | refine lES S rfl rfl ?_ | refine lEB S ?_ | refine lH S ?_)); (first | refine off ?_ | refine mv ?_); (first | (refine off ?_; refine vl ?_; refine mv ?_; refine KO_nil ?_) | skip))))
    refine K_ret ⟨_, rfl, ?_⟩
    exact ⟨.inr ⟨rfl, fun ⟨i', k', q1, q2⟩ => w1 _ _ q1⟩, S⟩

open Classical in
/-- The near seats among the first n. -/
noncomputable def nbUp (N : Int → Int → Prop) (k a : Int) : Nat → List Int
  | 0 => []
  | m + 1 => if N k m then nbUp N k a m ++ [a - k + m] else nbUp N k a m
theorem nbUp_len (N : Int → Int → Prop) (k a : Int) : ∀ m, (nbUp N k a m).length ≤ m
  | 0 => Nat.le_refl _
  | m + 1 => by
    have := nbUp_len N k a m
    unfold nbUp
    split
    · simp; omega
    · omega
def NbR (l : List Tab) (a : Int) (out : List Int) : Prop := (∃ i k : Nat, WhereI l a i k ∧ out = nbUp (nearP (tb l i)) k a (tsize (tb l i)).toNat) ∨ (out = [] ∧ ∀ i k, ¬ WhereI l a i k)
theorem hallNeighbours_ok {h0 : AH} (w : WfH h0) (v : Value) (l : List Tab) (H : HallR h0 v l) (a : Int) (ha : a ≤ 9223372036854775807) :
    Fn Tryz.prog Xh 36 [v, .int .i64 a] h0 (fun r h' => ∃ out, NbR l a out ∧ out.length ≤ 1000 ∧ Hs h0 h' [.sl r 3 1 eI out]) := by
  have S := Hs.start w
  have hr := H.rd
  have hl := H.len
  refine Fn_K rfl Tryz.func36 rfl rfl ?_
  all_goals (repeat' (first | refine K_seq ?_ | refine k_cond rfl ?_ | refine K_skip ?_ | refine K_exit ?_ | refine k_block ?_ | refine K_scope ?_ | (refine K_region (id := 0) ?_; refine mv ?_; refine KO_nil ?_) | (refine K_region (id := 1) ?_; refine mv ?_; refine mv ?_)))
  (refine KO_fn rfl rfl rfl rfl rfl ((where_ok S.wf v l H a ha).mono ?_); rintro _ h ⟨_, _, _, rfl, ⟨rfl, i, k, rfl, rfl, w1⟩ | ⟨rfl, rfl, rfl, w1⟩, x⟩) <;> (replace S := S.join0 x; clear x; refine mv ?_; refine vl ?_; refine vl ?_; refine vl ?_; refine mv ?_; refine mv ?_; refine mv ?_; refine KO_nil ?_)
  · have hi := w1.2.1
    have t1 := tsize_le (tb l i)
    have k1 := w1.2.2.1
    have a1 := w1.2.2.2
    have b1 := sumT_le l i
    obtain ⟨n, hn⟩ := Int.eq_ofNat_of_zero_le t1.1
    have hnn : (tsize (tb l i)).toNat = n := by omega
    all_goals (repeat' (first | refine K_seq ?_ | refine k_cond rfl ?_ | refine K_skip ?_ | refine K_exit ?_ | refine k_block ?_ | refine K_scope ?_ | (refine K_region (id := 2) ?_; refine mv ?_; refine vl ?_; refine KO_nil ?_) | (refine K_region (id := 3) ?_; refine mv ?_; refine KO_nil ?_) | (refine K_region (id := 4) ?_; refine mv ?_; refine KO_nil ?_) | (refine K_region (id := 5) ?_; refine mv ?_; refine mv ?_; (first | refine ixB S ?_ | refine ixS S rfl rfl ?_); (first | refine lB S rfl rfl ?_ | refine lES S rfl rfl ?_ | refine lEB S ?_ | refine lH S ?_))))
    (try simp only [Int.toNat_natCast] at *)
    (refine KO_fn rfl rfl rfl rfl rfl ((size_ok S.wf (tb l i)).mono ?_); rintro _ h ⟨rfl, x⟩) <;> (replace S := S.join0 x; clear x; rw [hn]; refine mv ?_; refine KO_nil ?_)
    all_goals (repeat' (first | refine K_seq ?_ | refine k_cond rfl ?_ | refine K_skip ?_ | refine K_exit ?_ | refine k_block ?_ | refine K_scope ?_))
    refine k_loop (σ := Nat × Value) (fun (m, vo) h' => Hs h0 h' [.sl vo 3 1 eI (nbUp (nearP (tb l i)) k a m)] ∧ m ≤ n) (fun (m, vo) => n - m) (fun (m, vo) => [(0, v), (1, .int .i64 a), (5, .int .i64 i), (6, .int .i64 k), (8, vo), (23, .int .i64 n), (24, .int .i64 m)]) (0, .slice none 0 0) (by repeat (first | exact Ks.le_nil _ | refine Ks.le_cons rfl ?_ | refine Ks.le_int ?_)) ?_ ?_
    · exact ⟨S.nilS, Nat.zero_le _⟩
    clear S
    rintro ⟨m, vo⟩ h ⟨S, h1⟩
    have hnl := nbUp_len (nearP (tb l i)) k a m
    all_goals (repeat' (first | refine K_seq ?_ | refine k_cond rfl ?_ | refine K_skip ?_ | refine K_exit ?_ | refine k_block ?_ | refine K_scope ?_ | (refine K_region (id := 6) ?_; (first | refine cT ?_ | refine cF ?_ | (refine cS ?_ ?_ <;> intro hc)) <;> (refine KO_nil ?_)) | (refine K_region (id := 7) ?_; refine mv ?_; refine mv ?_; refine KO_nil ?_) | (refine K_region (id := 8) ?_; refine mv ?_; refine mv ?_; (first | refine ixB S ?_ | refine ixS S rfl rfl ?_); (first | refine lB S rfl rfl ?_ | refine lES S rfl rfl ?_ | refine lEB S ?_ | refine lH S ?_); refine mv ?_; refine mv ?_) | (refine K_region (id := 11) ?_; refine mv ?_; refine mv ?_; refine KO_nil ?_)))
    · (try simp only [Int.toNat_natCast] at *)
      (refine KO_fn rfl rfl rfl rfl rfl ((near_ok S.wf (tb l i) k m w1.sz.b (by omega) (by omega)).mono ?_); rintro _ h ⟨⟨rfl, hq⟩ | ⟨rfl, hq⟩, x⟩) <;> (replace S := S.join0 x; clear x; refine KO_nil ?_)
      · all_goals (repeat' (first | refine K_seq ?_ | refine k_cond rfl ?_ | refine K_skip ?_ | refine K_exit ?_ | refine k_block ?_ | refine K_scope ?_ | (refine K_region (id := 9) ?_; refine mv ?_; refine mv ?_; refine mv ?_; (first | refine sb ?_ | refine vl ?_); refine mv ?_; (first | refine ad ?_ | refine vl ?_); (refine one 1 S ?_; clear S; intro u h S)) | (refine K_region (id := 10) ?_; (first | refine ad ?_ | refine vl ?_); refine mv ?_; refine KO_nil ?_)))
        refine app (y0 := (a - k + m)) S rfl rfl ?_; clear S; intro v h S; refine mv ?_; refine KO_nil ?_
        all_goals (repeat' (first | refine K_seq ?_ | refine k_cond rfl ?_ | refine K_skip ?_ | refine K_exit ?_ | refine k_block ?_ | refine K_scope ?_ | (refine K_region (id := 10) ?_; (first | refine ad ?_ | refine vl ?_); refine mv ?_; refine KO_nil ?_)))
        refine ⟨(m + 1, v), ?_, ?_, (by repeat (first | exact Ks.le_nil _ | refine Ks.le_cons rfl ?_ | refine Ks.le_int ?_))⟩
        · show n - (m + 1) < n - m; omega
        · refine ⟨?_, by omega⟩
          have e : nbUp (nearP (tb l i)) k a (m + 1) = nbUp (nearP (tb l i)) k a m ++ [a - k + m] := by rw [nbUp, if_pos hq]
          rw [e]; exact S
      · all_goals (repeat' (first | refine K_seq ?_ | refine k_cond rfl ?_ | refine K_skip ?_ | refine K_exit ?_ | refine k_block ?_ | refine K_scope ?_ | (refine K_region (id := 10) ?_; (first | refine ad ?_ | refine vl ?_); refine mv ?_; refine KO_nil ?_)))
        refine ⟨(m + 1, vo), ?_, ?_, (by repeat (first | exact Ks.le_nil _ | refine Ks.le_cons rfl ?_ | refine Ks.le_int ?_))⟩
        · show n - (m + 1) < n - m; omega
        · refine ⟨?_, by omega⟩
          have e : nbUp (nearP (tb l i)) k a (m + 1) = nbUp (nearP (tb l i)) k a m := by rw [nbUp, if_neg hq]
          rw [e]; exact S
    · refine K_ret ⟨_, rfl, ?_⟩
      have hmn : m = n := by omega
      subst hmn
      exact ⟨_, .inl ⟨i, k, w1, by rw [hnn]⟩, by omega, S⟩
  · all_goals (repeat' (first | refine K_seq ?_ | refine k_cond rfl ?_ | refine K_skip ?_ | refine K_exit ?_ | refine k_block ?_ | refine K_scope ?_ | (refine K_region (id := 2) ?_; refine mv ?_; refine vl ?_; refine KO_nil ?_) | (refine K_region (id := 3) ?_; refine mv ?_; refine KO_nil ?_)))
    refine K_ret ⟨_, rfl, ?_⟩
    exact ⟨[], .inr ⟨rfl, w1⟩, by simp, S.nilS⟩
end Go.Proofs.Xx

/-
  The order of honour.
-/
namespace Go.Proofs.Xx
open Go Go.Proofs
set_option linter.unusedSimpArgs false
set_option linter.unusedVariables false
set_option maxRecDepth 100000

theorem honCmp_ok {h0 : AH} (w : WfH h0) {bA bF : Nat} {vb : Value} {lv : List Int} {f : Int} (hA : h0.get bA = some (.cells [vb] 23 none false)) (hF : h0.get bF = some (.cells [.int .i64 f] 3 none false)) (rb : RdL h0 vb 1 eI lv)
    (hv : ∀ i, i < lv.length → 0 ≤ lv.getD i default ∧ lv.getD i default ≤ 1000) (hlv : lv.length ≤ 1000) (hf : 0 ≤ f ∧ f ≤ 1000000) :
    KeyFn h0 90 [.pointer (some ⟨bA, 0, none⟩), .pointer (some ⟨bF, 0, none⟩)] (fun x => lv.getD (x - f).toNat default) (fun x => f ≤ x ∧ x < f + lv.length) := by
  intro h x y ex hx hy
  have hA := ex.get w hA
  have hF := ex.get w hF
  have rb := rb.ext w ex
  have w2 := ex.wf
  clear w ex
  have S := Hs.start w2
  have b1 := hv (x - f).toNat (by omega)
  have b2 := hv (y - f).toNat (by omega)
  refine Fn_K rfl Tryz.func90 rfl rfl ?_
  all_goals (repeat' (first | refine K_seq ?_ | refine k_cond rfl ?_ | refine K_skip ?_ | refine K_exit ?_ | refine k_block ?_ | refine K_scope ?_ | (refine K_region (id := 0) ?_; refine mv ?_; refine KO_nil ?_) | (refine K_draw (id := 1) ?_; (first | refine lB S rfl rfl ?_ | refine lES2 S rfl rfl ?_ | refine lEB S ?_ | refine lH S ?_); refine mv ?_; (first | refine lB S rfl rfl ?_ | refine lES2 S rfl rfl ?_ | refine lEB S ?_ | refine lH S ?_); (first | refine sb ?_ | refine vl ?_); (first | refine ixB S ?_ | refine ixS2 S rfl rfl ?_); (first | refine lB S rfl rfl ?_ | refine lES2 S rfl rfl ?_ | refine lEB S ?_ | refine lH S ?_); (first | refine lB S rfl rfl ?_ | refine lES2 S rfl rfl ?_ | refine lEB S ?_ | refine lH S ?_); refine mv ?_; (first | refine lB S rfl rfl ?_ | refine lES2 S rfl rfl ?_ | refine lEB S ?_ | refine lH S ?_); (first | refine sb ?_ | refine vl ?_); (first | refine ixB S ?_ | refine ixS2 S rfl rfl ?_); (first | refine lB S rfl rfl ?_ | refine lES2 S rfl rfl ?_ | refine lEB S ?_ | refine lH S ?_); (first | refine sb ?_ | refine vl ?_); refine mv ?_; refine KO_nil ?_)))
  refine K_ret ⟨_, rfl, ?_⟩
  exact ⟨_, rfl, by show _ ↔ lv.getD (x - f).toNat default < lv.getD (y - f).toNat default; omega, S⟩

theorem lvl_len (n : Nat) (l : List Int) : (lvl n l).length = l.length := List.length_map ..
theorem lvl_get (n : Nat) (l : List Int) (i : Nat) (h : i < l.length) : (lvl n l).getD i default = if l.getD i default < 0 then (n : Int) else l.getD i default := by
  simp [lvl, List.getD_eq_getElem?_getD, List.getElem?_map, List.getElem?_eq_getElem h]
theorem lvl_bound {N : Int → Int → Prop} {n s : Nat} {l : List Int} (d : DistL N n s l) (i : Nat) (h : i < n) : 0 ≤ (lvl n l).getD i default ∧ (lvl n l).getD i default ≤ n := by
  have := d.bound i h
  rw [lvl_get n l i (by rw [d.1]; exact h)]
  split <;> omega

/-- The first n seats of a table whose first seat is f. -/
def ups (f : Int) (n : Nat) : List Int := (List.range n).map fun k : Nat => f + (k : Int)
theorem ups_len (f : Int) (n : Nat) : (ups f n).length = n := by simp [ups]
theorem ups_get (f : Int) {n k : Nat} (h : k < n) : (ups f n).getD k default = f + k := by
  simp [ups, List.getD_eq_getElem?_getD, List.getElem?_map, List.getElem?_range h]
def HonR (l : List Tab) (t : Int) (out : List Int) : Prop :=
  (∃ (i n : Nat) (ld : List Int), t = i ∧ i < l.length ∧ ValidL l ∧ tsize (tb l i) = n ∧ DistL (nearP (tb l i)) n (tHon (tb l i)).toNat ld ∧ HonL (fun x => (lvl n ld).getD (x - sumT l i).toNat default) (sumT l i) n out) ∨ (¬ (0 ≤ t ∧ t < l.length ∧ ValidL l) ∧ out = [])
theorem HonR.unique {l : List Tab} {t : Int} {a b : List Int} (ha : HonR l t a) (hb : HonR l t b) : a = b := by
  rcases ha with ⟨i, n, ld, rfl, h1, h2, h3, h4, h5⟩ | ⟨h1, rfl⟩ <;> rcases hb with ⟨i', n', ld', e, g1, g2, g3, g4, g5⟩ | ⟨g1, rfl⟩
  · obtain rfl : i = i' := by omega
    obtain rfl : n = n' := by omega
    obtain rfl := h4.unique g4
    exact h5.unique g5
  · exact absurd ⟨by omega, by omega, h2⟩ g1
  · exact absurd ⟨by omega, by omega, g2⟩ h1
  · rfl

theorem ValidL.tabS {l : List Tab} (h : ValidL l) {i : Nat} (hi : i < l.length) : TabS (tb l i) := by
  have := (h.2 i hi).1
  have h2 := tsize_le (tb l i)
  refine TabS.of _ ?_
  unfold chk at this
  split at this
  · omega
  · split at this
    · omega
    · omega

theorem honour_ok {h0 : AH} (w : WfH h0) (v : Value) (l : List Tab) (H : HallR h0 v l) (t : Int) : Fn Tryz.prog Xh 34 [v, .int .i64 t] h0 (fun r h' => ∃ out, HonR l t out ∧ out.length ≤ 1000 ∧ Hs h0 h' [.sl r 3 1 eI out]) := by
  have S := Hs.start w
  have hl := H.len
  have hr := H.rd
  by_cases ht0 : t < 0
  · refine Fn_K rfl Tryz.func34 rfl rfl ?_
    all_goals (repeat' (first | refine K_seq ?_ | refine k_cond rfl ?_ | refine K_skip ?_ | refine K_exit ?_ | refine k_block ?_ | refine K_scope ?_ | (refine K_region (id := 0) ?_; refine mv ?_; refine KO_nil ?_) | (refine K_region (id := 1) ?_; refine mv ?_; (first | refine cT ?_ | refine cF ?_ | (refine cS ?_ ?_ <;> intro hc)) <;> (refine mv ?_; (first | refine off ?_ | refine mv ?_); (first | refine off ?_ | refine mv ?_); (first | refine off ?_ | (first | refine lnB S ?_ | refine lnS S rfl rfl ?_)); (first | refine off ?_ | (first | refine cT ?_ | refine cF ?_ | (refine cS ?_ ?_ <;> intro hc))) <;> (refine vl ?_; refine mv ?_; (first | refine off ?_ | refine mv ?_); (first | (refine off ?_; (first | refine off ?_ | refine vl ?_); refine vl ?_; refine KO_nil ?_) | skip)))) | (refine K_region (id := 2) ?_; refine mv ?_; refine KO_nil ?_) | (refine K_region (id := 3) ?_; refine mv ?_; refine mv ?_; (first | refine ixB S ?_ | refine ixS2 S rfl rfl ?_); (first | refine lB S rfl rfl ?_ | refine lES2 S rfl rfl ?_ | refine lEB S ?_ | refine lH S ?_))))
    all_goals (try omega)
    refine K_ret ⟨_, rfl, ?_⟩
    exact ⟨[], .inr ⟨by omega, rfl⟩, by simp, S.nilS⟩
  obtain ⟨i, rfl⟩ := Int.eq_ofNat_of_zero_le (show 0 ≤ t by omega)
  refine Fn_K rfl Tryz.func34 rfl rfl ?_
  all_goals (repeat' (first | refine K_seq ?_ | refine k_cond rfl ?_ | refine K_skip ?_ | refine K_exit ?_ | refine k_block ?_ | refine K_scope ?_ | (refine K_region (id := 0) ?_; refine mv ?_; refine KO_nil ?_) | (refine K_region (id := 1) ?_; refine mv ?_; (first | refine cT ?_ | refine cF ?_ | (refine cS ?_ ?_ <;> intro hc)) <;> (refine mv ?_; (first | refine off ?_ | refine mv ?_); (first | refine off ?_ | refine mv ?_); (first | refine off ?_ | (first | refine lnB S ?_ | refine lnS S rfl rfl ?_)); (first | refine off ?_ | (first | refine cT ?_ | refine cF ?_ | (refine cS ?_ ?_ <;> intro hc))) <;> (refine vl ?_; refine mv ?_; (first | refine off ?_ | refine mv ?_); (first | (refine off ?_; (first | refine off ?_ | refine vl ?_); refine vl ?_; refine KO_nil ?_) | skip)))) | (refine K_region (id := 2) ?_; refine mv ?_; refine KO_nil ?_) | (refine K_region (id := 3) ?_; refine mv ?_; refine mv ?_; (first | refine ixB S ?_ | refine ixS2 S rfl rfl ?_); (first | refine lB S rfl rfl ?_ | refine lES2 S rfl rfl ?_ | refine lEB S ?_ | refine lH S ?_))))
  all_goals (try omega)
  · refine K_ret ⟨_, rfl, ?_⟩
    exact ⟨[], .inr ⟨by omega, rfl⟩, by simp, S.nilS⟩
  · (refine KO_fn rfl rfl rfl rfl rfl ((valid_ok S.wf v l H).mono ?_); rintro _ h ⟨⟨rfl, hq⟩ | ⟨rfl, hq⟩, x⟩) <;> (replace S := S.join0 x; clear x; (first | refine off ?_ | refine vl ?_); refine vl ?_; refine KO_nil ?_)
    all_goals (repeat' (first | refine K_seq ?_ | refine k_cond rfl ?_ | refine K_skip ?_ | refine K_exit ?_ | refine k_block ?_ | refine K_scope ?_ | (refine K_region (id := 2) ?_; refine mv ?_; refine KO_nil ?_) | (refine K_region (id := 3) ?_; refine mv ?_; refine mv ?_; (first | refine ixB S ?_ | refine ixS2 S rfl rfl ?_); (first | refine lB S rfl rfl ?_ | refine lES2 S rfl rfl ?_ | refine lEB S ?_ | refine lH S ?_))))
    · have hi : i < l.length := by omega
      have hts := hq.tabS hi
      have t1 := tsize_le (tb l i)
      have t2 := hts.pos
      have b1 := sumT_le l i
      obtain ⟨n, hn⟩ := Int.eq_ofNat_of_zero_le t1.1
      (try simp only [Int.toNat_natCast] at *)
      (refine KO_fn rfl rfl rfl rfl rfl ((levels_ok S.wf (tb l i) n hts.b hn (by omega) (by omega)).mono ?_); rintro vb h ⟨ld, hd, x⟩) <;> (replace S := S.join1 x; clear x; obtain ⟨sb, rfl⟩ := (Rd.of_sl S .here).isSl; (refine al S ?_; clear S; intro b h S); (first | (refine sB S rfl rfl ?_; clear S; intro h S) | (refine sE2 S rfl rfl ?_; clear S; intro h S)); refine KO_nil ?_)
      have hdl := hd.1
      have hll := lvl_len n ld
      all_goals (repeat' (first | refine K_seq ?_ | refine k_cond rfl ?_ | refine K_skip ?_ | refine K_exit ?_ | refine k_block ?_ | refine K_scope ?_ | (refine K_region (id := 4) ?_; refine mv ?_; refine mv ?_)))
      obtain ⟨bA, hnm⟩ : ∃ x, x = b := ⟨_, rfl⟩; subst hnm
      have H2 := H.ext w S.ext
      obtain ⟨f, hf⟩ : ∃ f, f = sumT l i := ⟨_, rfl⟩
      have ef : firstV l i = f := by unfold firstV; rw [if_pos ⟨by omega, by omega, hq⟩, Int.toNat_natCast, hf]
      rw [← hf] at b1
      (refine KO_fn rfl rfl rfl rfl rfl ((first_ok S.wf v l H2 i).mono ?_); rintro _ h ⟨rfl, x⟩) <;> (replace S := S.join0 x; clear x; rw [ef]; (refine al S ?_; clear S; intro b h S); (first | (refine sB S rfl rfl ?_; clear S; intro h S) | (refine sE2 S rfl rfl ?_; clear S; intro h S)); refine KO_nil ?_)
      obtain ⟨bF, hnm⟩ : ∃ x, x = b := ⟨_, rfl⟩; subst hnm
      have w1 := S.wf
      have hA : h.get bA = some (.cells [sb.val] 23 none false) := S.gB (b := bA)
      have hF : h.get bF = some (.cells [.int .i64 f] 3 none false) := S.gB (b := bF)
      have rb : RdL h sb.val 1 eI (lvl n ld) := Rd.of_sl S (.there (.there .here))
      have T := S
      replace S := Hs.start w1
      obtain ⟨hB, hnm⟩ : ∃ x, x = h := ⟨_, rfl⟩; subst hnm
      have hfb : f ≤ 1000000 := by omega
      have hKF := honCmp_ok w1 hA hF rb (fun j hj => by have := lvl_bound hd j (by omega); omega) (by omega) ⟨b1.1, hfb⟩
      all_goals (repeat' (first | refine K_seq ?_ | refine k_cond rfl ?_ | refine K_skip ?_ | refine K_exit ?_ | refine k_block ?_ | refine K_scope ?_ | (refine K_region (id := 5) ?_; (first | refine lB S rfl rfl ?_ | refine lES2 S rfl rfl ?_ | refine lEB S ?_ | refine lH S ?_); (first | refine lnB S ?_ | refine lnS S rfl rfl ?_))))
      refine m_make (z := 1) (by_ := 8) (enc := eI) (y0 := 0) S rfl rfl rfl rfl rfl rfl rfl rfl rfl (by intro _; rfl) (by first | omega | grind) rfl rfl ?_; clear S; intro v h S; refine mv ?_; refine KO_nil ?_
      rw [hll, hdl, Int.toNat_natCast] at S
      obtain ⟨vo, hnm⟩ : ∃ x, x = v := ⟨_, rfl⟩; subst hnm
      all_goals (repeat' (first | refine K_seq ?_ | refine k_cond rfl ?_ | refine K_skip ?_ | refine K_exit ?_ | refine k_block ?_ | refine K_scope ?_ | (refine K_region (id := 6) ?_; refine mv ?_; (first | refine lnB S ?_ | refine lnS S rfl rfl ?_); refine mv ?_; refine KO_nil ?_)))
      refine k_loop (σ := Nat × List Int) (fun (k, m) h' => Hs hB h' [.sl vo 3 1 eI m] ∧ k ≤ n ∧ m.length = n ∧ ∀ j, j < k → m.getD j default = f + j) (fun (k, m) => n - k) (fun (k, m) => [(5, .pointer (some ⟨bA, 0, none⟩)), (6, .pointer (some ⟨bF, 0, none⟩)), (7, vo), (34, .int .i64 n), (35, .int .i64 k)]) (0, List.replicate n 0) (by repeat (first | exact Ks.le_nil _ | refine Ks.le_cons rfl ?_ | refine Ks.le_int ?_)) ?_ ?_
      · exact ⟨S, Nat.zero_le _, by simp, fun j hj => by omega⟩
      clear S
      rintro ⟨k, m⟩ h2 ⟨S, g1, g2, g3⟩
      all_goals (repeat' (first | refine K_seq ?_ | refine k_cond rfl ?_ | refine K_skip ?_ | refine K_exit ?_ | refine k_block ?_ | refine K_scope ?_ | (refine K_region (id := 7) ?_; (first | refine cT ?_ | refine cF ?_ | (refine cS ?_ ?_ <;> intro hc)) <;> (refine KO_nil ?_)) | (refine K_region (id := 8) ?_; refine mv ?_; refine mv ?_; refine KO_nil ?_) | (refine K_region (id := 9) ?_; refine mv ?_; refine mv ?_; (first | refine lB S rfl rfl ?_ | refine lES2 S rfl rfl ?_ | refine lEB S ?_ | refine lH S ?_); refine mv ?_; (first | refine ad ?_ | refine vl ?_); (first | refine ixB S ?_ | refine ixS2 S rfl rfl ?_); (first | (refine sB S rfl rfl ?_; clear S; intro h S) | (refine sE2 S rfl rfl ?_; clear S; intro h S)); refine KO_nil ?_) | (refine K_region (id := 10) ?_; (first | refine ad ?_ | refine vl ?_); refine mv ?_; refine KO_nil ?_) | (refine K_region (id := 11) ?_; refine mv ?_; refine vl ?_)))
      · (try simp only [Int.toNat_natCast] at *)
        refine ⟨(k + 1, m.set k (f + k)), ?_, ?_, (by repeat (first | exact Ks.le_nil _ | refine Ks.le_cons rfl ?_ | refine Ks.le_int ?_))⟩
        · show n - (k + 1) < n - k; omega
        · refine ⟨S, by omega, by simpa using g2, fun j hj => ?_⟩
          rw [getD_set _ _ (by omega)]
          split
          · rename_i e; subst e; rfl
          · exact g3 j (by omega)
      · obtain rfl : k = n := by omega
        obtain rfl : m = ups f k := ext_getD (by rw [g2, ups_len]) fun j hj => by rw [g3 j (by omega), ups_get f (by omega)]
        have hul := ups_len f k
        have hp1 : ∀ j, 0 ≤ j → j < (ups f k).length → f ≤ (ups f k).getD j default ∧ (ups f k).getD j default < f + (lvl k ld).length := fun j _ hj => by rw [ups_get f (by omega)]; constructor <;> omega
        have hi1 : Inc 0 (ups f k).length (ups f k) := fun x y q1 q2 q3 => by rw [ups_get f (by omega), ups_get f (by omega)]; omega
        (refine KO_fn rfl rfl rfl rfl rfl ((sortStable_ok S hKF hp1 (by omega) hi1).mono ?_); rintro _ h ⟨out, k1, k2, S2⟩) <;> (replace S := S2; clear S2; refine KO_nil ?_)
        all_goals (repeat' (first | refine K_seq ?_ | refine k_cond rfl ?_ | refine K_skip ?_ | refine K_exit ?_ | refine k_block ?_ | refine K_scope ?_ | (refine K_region (id := 12) ?_; refine mv ?_; refine mv ?_; refine KO_nil ?_)))
        refine K_ret ⟨_, rfl, ?_⟩
        refine ⟨out, .inl ⟨i, k, ld, rfl, hi, hq, hn, hd, ?_⟩, by rw [k1.len]; omega, T.drop.join1 S⟩
        rw [← hf]
        exact HonL.of_sorted rfl k1 k2
    · refine K_ret ⟨_, rfl, ?_⟩
      exact ⟨[], .inr ⟨fun q => hq q.2.2, rfl⟩, by simp, S.nilS⟩

/-- The order of honour as far as it is told: levels below d, and d among the first k. -/
def HonPre (key : Int → Int) (f : Int) (n : Nat) (d : Int) (k : Nat) (out : List Int) : Prop := out.Pairwise (lexi key) ∧ ∀ x, x ∈ out ↔ ∃ j : Nat, j < n ∧ x = f + j ∧ (key x < d ∨ (key x = d ∧ j < k))
theorem HonPre.take {key : Int → Int} {f : Int} {n : Nat} {d : Int} {k : Nat} {out : List Int} (h : HonPre key f n d k out) (hk : k < n) (hq : key (f + k) = d) : HonPre key f n d (k + 1) (out ++ [f + k]) := by
  refine ⟨List.pairwise_append.2 ⟨h.1, by simp, fun a ha b hb => ?_⟩, fun x => ?_⟩
  · obtain ⟨j, h1, h2, h3⟩ := (h.2 a).1 ha
    rw [List.mem_singleton] at hb
    subst hb
    unfold lexi
    omega
  · rw [List.mem_append, List.mem_singleton, h.2]
    constructor
    · rintro (⟨j, h1, h2, h3⟩ | h1)
      · exact ⟨j, h1, h2, by omega⟩
      · exact ⟨k, hk, h1, by rw [h1]; omega⟩
    · rintro ⟨j, h1, h2, h3⟩
      rcases Nat.lt_trichotomy j k with q | q | q
      · exact .inl ⟨j, h1, h2, by omega⟩
      · subst q; exact .inr h2
      · exact .inl ⟨j, h1, h2, by omega⟩
theorem HonPre.pass {key : Int → Int} {f : Int} {n : Nat} {d : Int} {k : Nat} {out : List Int} (h : HonPre key f n d k out) (hq : key (f + k) ≠ d) : HonPre key f n d (k + 1) out := by
  refine ⟨h.1, fun x => ?_⟩
  rw [h.2]
  constructor
  · rintro ⟨j, h1, h2, h3⟩; exact ⟨j, h1, h2, by omega⟩
  · rintro ⟨j, h1, h2, h3⟩
    refine ⟨j, h1, h2, ?_⟩
    rcases h3 with h3 | ⟨h3, h4⟩
    · exact .inl h3
    · rcases Nat.lt_or_ge j k with q | q
      · exact .inr ⟨h3, q⟩
      · obtain rfl : j = k := by omega
        rw [h2] at h3; exact absurd h3 hq
theorem HonPre.level {key : Int → Int} {f : Int} {n : Nat} {d : Int} {out : List Int} (h : HonPre key f n d n out) : HonPre key f n (d + 1) 0 out := by
  refine ⟨h.1, fun x => ?_⟩
  rw [h.2]
  constructor
  · rintro ⟨j, h1, h2, h3⟩; exact ⟨j, h1, h2, by omega⟩
  · rintro ⟨j, h1, h2, h3⟩; exact ⟨j, h1, h2, by omega⟩
theorem HonPre.done {key : Int → Int} {f : Int} {n : Nat} {d : Int} {out : List Int} (h : HonPre key f n d 0 out) (hb : ∀ j : Nat, j < n → key (f + j) < d) : HonL key f n out := by
  refine ⟨h.1, fun x => ?_⟩
  rw [h.2]
  constructor
  · rintro ⟨j, h1, h2, h3⟩; omega
  · intro ⟨h1, h2⟩
    refine ⟨(x - f).toNat, by omega, by omega, .inl ?_⟩
    have := hb (x - f).toNat (by omega)
    rwa [show f + ((x - f).toNat : Int) = x by omega] at this

theorem refHonour_ok {h0 : AH} (w : WfH h0) (v : Value) (l : List Tab) (H : HallR h0 v l) (hq : ValidL l) (i : Nat) (hi : i < l.length) : Fn Tryz.prog Xh 78 [v, .int .i64 i] h0 (fun r h' => ∃ out, HonR l i out ∧ out.length ≤ 1000 ∧ Hs h0 h' [.sl r 3 1 eI out]) := by
  have S := Hs.start w
  have hl := H.len
  have hr := H.rd
  have hts := hq.tabS hi
  have t1 := tsize_le (tb l i)
  have t2 := hts.pos
  have b1 := sumT_le l i
  obtain ⟨n, hn⟩ := Int.eq_ofNat_of_zero_le t1.1
  refine Fn_K rfl Tryz.func78 rfl rfl ?_
  all_goals (repeat' (first | refine K_seq ?_ | refine k_cond rfl ?_ | refine K_skip ?_ | refine K_exit ?_ | refine k_block ?_ | refine K_scope ?_ | (refine K_region (id := 0) ?_; refine mv ?_; refine KO_nil ?_) | (refine K_region (id := 1) ?_; refine mv ?_; refine mv ?_; (first | refine ixB S ?_ | refine ixS2 S rfl rfl ?_); (first | refine lB S rfl rfl ?_ | refine lES2 S rfl rfl ?_ | refine lEB S ?_ | refine lH S ?_))))
  (try simp only [Int.toNat_natCast] at *)
  (refine KO_fn rfl rfl rfl rfl rfl ((refLevels_ok S.wf (tb l i) n hts hn).mono ?_); rintro vb h ⟨ld, hd, x⟩) <;> (replace S := S.join1 x; clear x; refine mv ?_; refine KO_nil ?_)
  have hdl := hd.1
  have hll := lvl_len n ld
  obtain ⟨f, hf⟩ : ∃ f, f = sumT l i := ⟨_, rfl⟩
  rw [← hf] at b1
  have kb : ∀ j : Nat, j < n → ((lvl n ld).getD (f + (j : Int) - f).toNat default) < (n : Int) + 1 := fun j hj => by
    rw [show (f + (j : Int) - f).toNat = j by omega]
    have := (lvl_bound hd j hj).2; omega
  all_goals (repeat' (first | refine K_seq ?_ | refine k_cond rfl ?_ | refine K_skip ?_ | refine K_exit ?_ | refine k_block ?_ | refine K_scope ?_ | (refine K_region (id := 2) ?_; refine mv ?_; refine KO_nil ?_) | (refine K_region (id := 3) ?_; refine mv ?_; refine KO_nil ?_)))
  refine k_loop (σ := Nat × List Int × Value) (fun (d, out, vo) h' => Hs h0 h' [.sl vo 3 1 eI out, .sl vb 3 1 eI (lvl n ld)] ∧ d ≤ n + 1 ∧ out.length ≤ 24 * d ∧ HonPre (fun x => (lvl n ld).getD (x - f).toNat default) f n d 0 out) (fun (d, out, vo) => n + 1 - d) (fun (d, out, vo) => [(0, v), (1, .int .i64 i), (5, vb), (6, vo), (7, .int .i64 d)]) (0, [], .slice none 0 0) (by repeat (first | exact Ks.le_nil _ | refine Ks.le_cons rfl ?_ | refine Ks.le_int ?_)) ?_ ?_
  · refine ⟨S.nilS, Nat.zero_le _, by simp, by simp, fun x => ⟨fun q => by simp at q, fun ⟨j, q1, q2, q3⟩ => ?_⟩⟩
    exfalso
    subst q2
    have e : (f + (j : Int) - f).toNat = j := by omega
    simp only [e] at q3
    have := (lvl_bound hd j q1).1
    omega
  clear S
  rintro ⟨d, out, vo⟩ h ⟨S, h1, h2, h3⟩
  all_goals (repeat' (first | refine K_seq ?_ | refine k_cond rfl ?_ | refine K_skip ?_ | refine K_exit ?_ | refine k_block ?_ | refine K_scope ?_ | (refine K_region (id := 4) ?_; refine mv ?_; refine mv ?_; (first | refine lnB S ?_ | refine lnS S rfl rfl ?_); (first | refine cT ?_ | refine cF ?_ | (refine cS ?_ ?_ <;> intro hc)) <;> (refine KO_nil ?_)) | (refine K_region (id := 6) ?_; refine mv ?_; refine KO_nil ?_) | (refine K_region (id := 11) ?_; refine mv ?_; refine mv ?_; refine KO_nil ?_)))
  · have hdn : d ≤ n := by omega
    refine k_loop (σ := Nat × List Int × Value) (fun (k, o2, vo) h' => Hs h0 h' [.sl vo 3 1 eI o2, .sl vb 3 1 eI (lvl n ld)] ∧ k ≤ n ∧ o2.length ≤ 24 * d + k ∧ HonPre (fun x => (lvl n ld).getD (x - f).toNat default) f n d k o2) (fun (k, o2, vo) => n - k) (fun (k, o2, vo) => [(0, v), (1, .int .i64 i), (5, vb), (6, vo), (7, .int .i64 d), (8, .int .i64 k)]) (0, out, vo) (by repeat (first | exact Ks.le_nil _ | refine Ks.le_cons rfl ?_ | refine Ks.le_int ?_)) ?_ ?_
    · exact ⟨S, Nat.zero_le _, by omega, h3⟩
    clear S
    rintro ⟨k, o2, vo⟩ h ⟨S, g1, g2, g3⟩
    have ek : (f + (k : Int) - f).toNat = k := by omega
    all_goals (repeat' (first | refine K_seq ?_ | refine k_cond rfl ?_ | refine K_skip ?_ | refine K_exit ?_ | refine k_block ?_ | refine K_scope ?_ | (refine K_region (id := 5) ?_; refine mv ?_; (first | refine ad ?_ | refine vl ?_); refine mv ?_; refine KO_nil ?_) | (refine K_region (id := 7) ?_; refine mv ?_; refine mv ?_; (first | refine lnB S ?_ | refine lnS S rfl rfl ?_); (first | refine cT ?_ | refine cF ?_ | (refine cS ?_ ?_ <;> intro hc)) <;> (refine KO_nil ?_)) | (refine K_region (id := 8) ?_; refine mv ?_; (first | refine ad ?_ | refine vl ?_); refine mv ?_; refine KO_nil ?_) | (refine K_region (id := 9) ?_; refine mv ?_; refine mv ?_; (first | refine ixB S ?_ | refine ixS2 S rfl rfl ?_); (first | refine lB S rfl rfl ?_ | refine lES2 S rfl rfl ?_ | refine lEB S ?_ | refine lH S ?_); refine mv ?_; (first | refine cT ?_ | refine cF ?_ | (refine cS ?_ ?_ <;> intro hc)) <;> (refine KO_nil ?_)) | (refine K_region (id := 10) ?_; refine mv ?_; refine mv ?_; refine mv ?_; skip)))
    · (try simp only [Int.toNat_natCast] at *)
      (refine KO_fn rfl rfl rfl rfl rfl ((refFirst_ok S.wf v l (H.ext w S.ext) i (by omega)).mono ?_); rintro _ h ⟨rfl, x⟩) <;> (replace S := S.join0 x; clear x; rw [← hf]; refine mv ?_; (first | refine ad ?_ | refine vl ?_); (refine one 1 S ?_; clear S; intro u h S))
      refine app  S rfl rfl ?_; clear S; intro v h S; refine mv ?_; refine KO_nil ?_
      all_goals (repeat' (first | refine K_seq ?_ | refine k_cond rfl ?_ | refine K_skip ?_ | refine K_exit ?_ | refine k_block ?_ | refine K_scope ?_ | (refine K_region (id := 8) ?_; refine mv ?_; (first | refine ad ?_ | refine vl ?_); refine mv ?_; refine KO_nil ?_)))
      refine ⟨(k + 1, o2 ++ [f + (k : Int)], v), ?_, ?_, (by repeat (first | exact Ks.le_nil _ | refine Ks.le_cons rfl ?_ | refine Ks.le_int ?_))⟩
      · show n - (k + 1) < n - k; omega
      · refine ⟨S, by omega, by simp only [List.length_append, List.length_cons, List.length_nil]; omega, g3.take (by omega) ?_⟩
        show (lvl n ld).getD (f + (k : Int) - f).toNat default = d
        rw [ek]; assumption
    · (try simp only [Int.toNat_natCast] at *)
      refine ⟨(k + 1, o2, vo), ?_, ?_, (by repeat (first | exact Ks.le_nil _ | refine Ks.le_cons rfl ?_ | refine Ks.le_int ?_))⟩
      · show n - (k + 1) < n - k; omega
      · refine ⟨S, by omega, by (try dsimp only); omega, g3.pass ?_⟩
        show (lvl n ld).getD (f + (k : Int) - f).toNat default ≠ d
        rw [ek]; assumption
    · obtain rfl : k = n := by omega
      refine ⟨(d + 1, o2, vo), ?_, ?_, (by repeat (first | exact Ks.le_nil _ | refine Ks.le_cons rfl ?_ | refine Ks.le_int ?_))⟩
      · show k + 1 - (d + 1) < k + 1 - d; omega
      · exact ⟨S, by omega, by (try dsimp only); omega, g3.level⟩
  · obtain rfl : d = n + 1 := by omega
    refine K_ret ⟨_, rfl, ?_⟩
    refine ⟨out, .inl ⟨i, n, ld, rfl, hi, hq, hn, hd, ?_⟩, by omega, S.only .here⟩
    rw [← hf]
    exact h3.done kb
end Go.Proofs.Xx
