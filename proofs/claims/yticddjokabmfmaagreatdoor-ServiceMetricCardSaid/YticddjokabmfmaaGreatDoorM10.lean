/-
  The check of a rule of a kind.
-/
import Derived.Test.YticddjokabmfmaaGreatDoorM9

namespace Go.Proofs.Xx
set_option linter.unusedSectionVars false
open Go Go.Proofs
set_option linter.unusedSimpArgs false
set_option linter.unusedVariables false
set_option maxRecDepth 100000
set_option maxHeartbeats 4000000

theorem countOne {h0 : AH} (w : WfH h0) {v : Value} {t : Tab} (hr : RdL h0 v 7 eT [t]) (hc : CapOk v) (ht : TabR h0 t) (hk : chk t = 0) : Fn Tryz.prog Xh 95 [v] h0 (fun r h' => r = .int .i64 (tsize t) ∧ Hs h0 h' []) := by
  refine (count_ok w v [t] ⟨hr, fun i hi => ?_, by simp, hc⟩).mono ?_
  · have : i = 0 := by simp at hi; omega
    subst this; exact ht
  · rintro r h ⟨rfl, x⟩
    refine ⟨?_, x⟩
    have : ValidL [t] := ⟨by simp, fun j hj => by
      have : j = 0 := by simp at hj; omega
      subst this; exact ⟨hk, fun ⟨i, hi, _⟩ => absurd hi (Nat.not_lt_zero _)⟩⟩
    unfold countV
    rw [if_pos this]
    simp [sumT, tb]
theorem gI_lt {us : List Gu} {n : List UInt8} : ¬ gI us n < 0 ↔ gat us n ≠ none := by rw [gI_none]
theorem Kd.err41 {k : Kd} {p : Pb} {r : Ru} (h : r.w < 0 ∨ 1000 < r.w) : k.err p r = 41 := by unfold Kd.err; rw [if_pos h]
theorem Kd.err43 {k : Kd} {p : Pb} {r : Ru} (h : ¬ (r.w < 0 ∨ 1000 < r.w)) (h2 : ¬ k.plain r) : k.err p r = 43 := by unfold Kd.err; rw [if_neg h, if_pos h2]
theorem Kd.err6 {k : Kd} {p : Pb} {r : Ru} (h : ¬ (r.w < 0 ∨ 1000 < r.w)) (h2 : k.plain r) (h3 : k.unk p.us r) : k.err p r = 6 := by unfold Kd.err; rw [if_neg h, if_neg (fun q => q h2), if_pos h3]
theorem Kd.err4 {k : Kd} {p : Pb} {r : Ru} (h : ¬ (r.w < 0 ∨ 1000 < r.w)) (h2 : k.plain r) (h3 : ¬ k.unk p.us r) (h4 : k.a = 100 ∧ ¬ nameP r.a) : k.err p r = 4 := by unfold Kd.err; rw [if_neg h, if_neg (fun q => q h2), if_neg h3, if_pos h4]
/-- The first part of what a rule is asked. -/
structure Kd.one (k : Kd) (p : Pb) (r : Ru) : Prop where
  w : ¬ (r.w < 0 ∨ 1000 < r.w)
  pl : k.plain r
  un : ¬ k.unk p.us r
  nm : ¬ (k.a = 100 ∧ ¬ nameP r.a)
theorem Kd.err5 {k : Kd} {p : Pb} {r : Ru} (h : k.one p r) (h5 : k.b = true ∧ r.a = r.b) : k.err p r = 5 := by unfold Kd.err; rw [if_neg h.w, if_neg (fun q => q h.pl), if_neg h.un, if_neg h.nm, if_pos h5]
open Classical in
theorem Kd.errR {k : Kd} {p : Pb} {r : Ru} (h : k.one p r) (h5 : ¬ (k.b = true ∧ r.a = r.b)) : k.err p r = if k.ut p.tabs r then 6 else if k.n = true ∧ (r.n < k.lo ∨ k.most p.tabs r < r.n) then 42 else 0 := by
  unfold Kd.err; rw [if_neg h.w, if_neg (fun q => q h.pl), if_neg h.un, if_neg h.nm, if_neg h5]
theorem kcheck_ok {h0 : AH} (w : WfH h0) (wd : List UInt8) (k : Kd) (f : Value) (v : PbV) (p : Pb) (H : PbOk h0 v p) (hv : ValidL p.tabs) (r : Ru) (hw : wd ≠ []) (hs : k.seat = true → k.t = 116) :
    Fn Tryz.prog Xh 63 [kdV wd k f, v.val, ruV r] h0 (fun u h' => u = .int .i64 (k.err p r) ∧ Hs h0 h' []) := by
  have S := Hs.start w
  have hr := H.tab.rd
  have hl := H.tab.len
  obtain ⟨ka, kb, kt, kn, lo, st⟩ := k
  unfold kdV eKd ruV eRu PbV.val
  refine Fn_K (by first | rfl | exact KX.no _ _ _ (by decide) rfl) Tryz.func63 rfl rfl ?_
  all_goals (repeat' (first | refine K_seq ?_ | refine k_cond rfl ?_ | refine K_skip ?_ | refine K_exit ?_ | refine K_scope ?_ | refine K_label ?_ | (refine K_region (id := 0) ?_; (refine bx S ?_; clear S; intro b h S); (refine bx S ?_; clear S; intro b h S); (refine bx S ?_; clear S; intro b h S); refine mv ?_; refine KO_nil ?_)))
  rename_i b3 h3 b4 h4
  (repeat (refine K_seq ?_)); first | refine K_join1 (σ := Unit) (fun _ h' => Hs h0 h' [.blk b (eRu r) 108, .blk b4 v.cs 33, .blk b3 (eKd wd (Kd.mk ka kb kt kn lo st) f) 116] ∧ (Kd.mk ka kb kt kn lo st).one p r ∧ ¬ (kb = true ∧ r.a = r.b)) (fun _ => [(3, .pointer (some ⟨b3, 0, none⟩)), (4, .pointer (some ⟨b4, 0, none⟩)), (5, .pointer (some ⟨b, 0, none⟩)), (6, .int .i64 0)]) ?_ ?_ | refine K_cut (σ := Unit) (fun _ h' => Hs h0 h' [.blk b (eRu r) 108, .blk b4 v.cs 33, .blk b3 (eKd wd (Kd.mk ka kb kt kn lo st) f) 116] ∧ (Kd.mk ka kb kt kn lo st).one p r ∧ ¬ (kb = true ∧ r.a = r.b)) (fun _ => [(3, .pointer (some ⟨b3, 0, none⟩)), (4, .pointer (some ⟨b4, 0, none⟩)), (5, .pointer (some ⟨b, 0, none⟩)), (6, .int .i64 0)]) ?_ ?_
  · all_goals (repeat' (first | refine K_seq ?_ | refine k_cond rfl ?_ | refine K_skip ?_ | refine K_exit ?_ | refine k_block ?_ | refine K_scope ?_ | refine K_label ?_ | (refine K_region (id := 0) ?_; (refine bx S ?_; clear S; intro b h S); (refine bx S ?_; clear S; intro b h S); (refine bx S ?_; clear S; intro b h S); refine mv ?_; refine KO_nil ?_) | (refine K_region (id := 1) ?_; (first | refine vl ?_ | refine fB S ?_ | refine fS S rfl rfl ?_ | refine fA ?_); (first | refine lB S rfl rfl ?_ | refine lES2 S rfl rfl ?_ | refine lEB S ?_ | refine lH S ?_); (refine tS ?_ ?_ <;> intro hc) <;> (refine mv ?_; refine KO_nil ?_)) | (refine K_region (id := 2) ?_; refine mv ?_; refine KO_nil ?_) | (refine K_region (id := 3) ?_; (first | refine vl ?_ | refine fB S ?_ | refine fS S rfl rfl ?_ | refine fA ?_); (first | refine lB S rfl rfl ?_ | refine lES2 S rfl rfl ?_ | refine lEB S ?_ | refine lH S ?_); (first | refine cT ?_ | refine cF ?_ | (refine cS ?_ ?_ <;> intro hc)) <;> (refine mv ?_; (first | refine off ?_ | (first | refine vl ?_ | refine fB S ?_ | refine fS S rfl rfl ?_ | refine fA ?_)); (first | refine off ?_ | (first | refine lB S rfl rfl ?_ | refine lES2 S rfl rfl ?_ | refine lEB S ?_ | refine lH S ?_)); (first | refine off ?_ | (first | refine cT ?_ | refine cF ?_ | (refine cS ?_ ?_ <;> intro hc))) <;> (refine vl ?_; refine mv ?_; refine KO_nil ?_))) | (refine K_region (id := 4) ?_; refine mv ?_; refine KO_nil ?_) | (refine K_region (id := 5) ?_; (first | refine lB S rfl rfl ?_ | refine lES2 S rfl rfl ?_ | refine lEB S ?_ | refine lH S ?_); (first | refine lB S rfl rfl ?_ | refine lES2 S rfl rfl ?_ | refine lEB S ?_ | refine lH S ?_))))
    · exact absurd hc hw
    · refine K_ret ⟨_, rfl, ?_⟩
      exact ⟨by rw [Kd.err41 (.inl hc)]; rfl, S.drop⟩
    · refine K_ret ⟨_, rfl, ?_⟩
      exact ⟨by rw [Kd.err41 (.inr (by omega))]; rfl, S.drop⟩
    rename_i hw1
    have hww : ¬ (r.w < 0 ∨ 1000 < r.w) := by omega
    (refine KO_fn rfl rfl rfl rfl rfl ((plain_ok S.wf wd (Kd.mk ka kb kt kn lo st) f r).mono ?_); rintro _ h ⟨⟨rfl, hp⟩ | ⟨rfl, hp⟩, x⟩) <;> (replace S := S.join0 x; clear x; refine vl ?_; refine mv ?_; refine KO_nil ?_)
    all_goals (repeat' (first | refine K_seq ?_ | refine k_cond rfl ?_ | refine K_skip ?_ | refine K_exit ?_ | refine k_block ?_ | refine K_scope ?_ | refine K_label ?_ | (refine K_region (id := 6) ?_; refine mv ?_; refine KO_nil ?_)))
    rotate_left
    · refine K_ret ⟨_, rfl, ?_⟩
      exact ⟨by rw [Kd.err43 hww hp]; rfl, S.drop⟩
    skip
    (repeat (refine K_seq ?_)); first | refine K_joinR (σ := Bool) (fun c h' => Hs h0 h' [.blk b (eRu r) 108, .blk b4 v.cs 33, .blk b3 (eKd wd (Kd.mk ka kb kt kn lo st) f) 116] ∧ (c = true ↔ (Kd.mk ka kb kt kn lo st).unk p.us r)) (fun c => [(3, .pointer (some ⟨b3, 0, none⟩)), (4, .pointer (some ⟨b4, 0, none⟩)), (5, .pointer (some ⟨b, 0, none⟩)), (6, .int .i64 0), (28, .bool c)]) ?_ ?_ | refine K_join (σ := Bool) (fun c h' => Hs h0 h' [.blk b (eRu r) 108, .blk b4 v.cs 33, .blk b3 (eKd wd (Kd.mk ka kb kt kn lo st) f) 116] ∧ (c = true ↔ (Kd.mk ka kb kt kn lo st).unk p.us r)) (fun c => [(3, .pointer (some ⟨b3, 0, none⟩)), (4, .pointer (some ⟨b4, 0, none⟩)), (5, .pointer (some ⟨b, 0, none⟩)), (6, .int .i64 0), (28, .bool c)]) ?_ ?_
    · all_goals (repeat' (first | refine K_seq ?_ | refine k_cond rfl ?_ | refine K_skip ?_ | refine K_exit ?_ | refine k_block ?_ | refine K_scope ?_ | refine K_label ?_ | (refine K_region (id := 7) ?_; (first | refine vl ?_ | refine fB S ?_ | refine fS S rfl rfl ?_ | refine fA ?_); (first | refine lB S rfl rfl ?_ | refine lES2 S rfl rfl ?_ | refine lEB S ?_ | refine lH S ?_); (first | refine cT ?_ | refine cF ?_ | (refine cS ?_ ?_ <;> intro hc)) <;> (refine mv ?_; (first | refine off ?_ | (first | refine lB S rfl rfl ?_ | refine lES2 S rfl rfl ?_ | refine lEB S ?_ | refine lH S ?_)); (first | refine off ?_ | (first | refine vl ?_ | refine fB S ?_ | refine fS S rfl rfl ?_ | refine fA ?_)); (first | refine off ?_ | (first | refine lB S rfl rfl ?_ | refine lES2 S rfl rfl ?_ | refine lEB S ?_ | refine lH S ?_)); (first | (refine off ?_; (first | refine off ?_ | (first | refine cT ?_ | refine cF ?_ | (refine cS ?_ ?_ <;> intro hc))) <;> (refine vl ?_; refine mv ?_; refine KO_nil ?_)) | skip)))))
      · have h103 : ka = 103 := hc
        (refine KO_fn rfl rfl rfl rfl rfl ((who_ok S.wf v p (H.ext w S.ext) r.a).mono ?_); rintro _ h ⟨rfl, x⟩) <;> (replace S := S.join0 x; clear x; (first | refine off ?_ | (first | refine cT ?_ | refine cF ?_ | (refine cS ?_ ?_ <;> intro hc))) <;> (refine vl ?_; refine mv ?_; refine KO_nil ?_))
        all_goals (repeat' (first | refine K_seq ?_ | refine k_cond rfl ?_ | refine K_skip ?_ | refine K_exit ?_ | refine k_block ?_ | refine K_scope ?_ | refine K_label ?_ | (refine K_region (id := 7) ?_; (first | refine vl ?_ | refine fB S ?_ | refine fS S rfl rfl ?_ | refine fA ?_); (first | refine lB S rfl rfl ?_ | refine lES2 S rfl rfl ?_ | refine lEB S ?_ | refine lH S ?_); (first | refine cT ?_ | refine cF ?_ | (refine cS ?_ ?_ <;> intro hc)) <;> (refine mv ?_; (first | refine off ?_ | (first | refine lB S rfl rfl ?_ | refine lES2 S rfl rfl ?_ | refine lEB S ?_ | refine lH S ?_)); (first | refine off ?_ | (first | refine vl ?_ | refine fB S ?_ | refine fS S rfl rfl ?_ | refine fA ?_)); (first | refine off ?_ | (first | refine lB S rfl rfl ?_ | refine lES2 S rfl rfl ?_ | refine lEB S ?_ | refine lH S ?_)); (first | (refine off ?_; (first | refine off ?_ | (first | refine cT ?_ | refine cF ?_ | (refine cS ?_ ?_ <;> intro hc))) <;> (refine vl ?_; refine mv ?_; refine KO_nil ?_)) | skip))) | (refine K_region (id := 8) ?_; (first | refine vl ?_ | refine fB S ?_ | refine fS S rfl rfl ?_ | refine fA ?_); (first | refine lB S rfl rfl ?_ | refine lES2 S rfl rfl ?_ | refine lEB S ?_ | refine lH S ?_); (first | refine cT ?_ | refine cF ?_ | (refine cS ?_ ?_ <;> intro hc)) <;> (refine mv ?_; (first | refine off ?_ | (first | refine vl ?_ | refine fB S ?_ | refine fS S rfl rfl ?_ | refine fA ?_)); (first | refine off ?_ | (first | refine lB S rfl rfl ?_ | refine lES2 S rfl rfl ?_ | refine lEB S ?_ | refine lH S ?_)); (first | refine off ?_ | (refine tS ?_ ?_ <;> intro hc)) <;> (refine vl ?_; refine mv ?_; (first | refine off ?_ | (first | refine lB S rfl rfl ?_ | refine lES2 S rfl rfl ?_ | refine lEB S ?_ | refine lH S ?_)); (first | refine off ?_ | (first | refine vl ?_ | refine fB S ?_ | refine fS S rfl rfl ?_ | refine fA ?_)); (first | refine off ?_ | (first | refine lB S rfl rfl ?_ | refine lES2 S rfl rfl ?_ | refine lEB S ?_ | refine lH S ?_)); (first | (refine off ?_; (first | refine off ?_ | (first | refine cT ?_ | refine cF ?_ | (refine cS ?_ ?_ <;> intro hc))) <;> (refine vl ?_; refine mv ?_; refine KO_nil ?_)) | skip))))))
        · exact ⟨true, ⟨S, fun _ => .inl ⟨h103, gI_none.1 hc⟩, fun _ => rfl⟩, ((by repeat (first | exact Ks.le_nil _ | refine Ks.le_cons rfl ?_ | refine Ks.le_int ?_)))⟩
        have ha1 : ¬ (ka = 103 ∧ gat p.us r.a = none) := fun q => gI_lt.1 hc q.2
        have ha2 : ¬ (ka = 101 ∧ r.a ≠ [] ∧ gat p.us r.a = none) := fun q => by have := q.1; omega
        cases kb
        · all_goals (repeat' (first | refine K_seq ?_ | refine k_cond rfl ?_ | refine K_skip ?_ | refine K_exit ?_ | refine k_block ?_ | refine K_scope ?_ | refine K_label ?_ | (refine K_region (id := 9) ?_; (first | refine vl ?_ | refine fB S ?_ | refine fS S rfl rfl ?_ | refine fA ?_); (first | refine lB S rfl rfl ?_ | refine lES2 S rfl rfl ?_ | refine lEB S ?_ | refine lH S ?_); refine mv ?_; (first | refine off ?_ | (first | refine lB S rfl rfl ?_ | refine lES2 S rfl rfl ?_ | refine lEB S ?_ | refine lH S ?_)); (first | refine off ?_ | (first | refine vl ?_ | refine fB S ?_ | refine fS S rfl rfl ?_ | refine fA ?_)); (first | refine off ?_ | (first | refine lB S rfl rfl ?_ | refine lES2 S rfl rfl ?_ | refine lEB S ?_ | refine lH S ?_)); (first | (refine off ?_; (first | refine off ?_ | (first | refine cT ?_ | refine cF ?_ | (refine cS ?_ ?_ <;> intro hc))) <;> (refine vl ?_; refine mv ?_; refine KO_nil ?_)) | skip))))
          exact ⟨false, ⟨S, fun q => (by cases q), fun q => q.elim (fun q => absurd q ha1) fun q => q.elim (fun q => absurd q ha2) fun q => (by cases q.1)⟩, ((by repeat (first | exact Ks.le_nil _ | refine Ks.le_cons rfl ?_ | refine Ks.le_int ?_)))⟩
        · all_goals (repeat' (first | refine K_seq ?_ | refine k_cond rfl ?_ | refine K_skip ?_ | refine K_exit ?_ | refine k_block ?_ | refine K_scope ?_ | refine K_label ?_ | (refine K_region (id := 9) ?_; (first | refine vl ?_ | refine fB S ?_ | refine fS S rfl rfl ?_ | refine fA ?_); (first | refine lB S rfl rfl ?_ | refine lES2 S rfl rfl ?_ | refine lEB S ?_ | refine lH S ?_); refine mv ?_; (first | refine off ?_ | (first | refine lB S rfl rfl ?_ | refine lES2 S rfl rfl ?_ | refine lEB S ?_ | refine lH S ?_)); (first | refine off ?_ | (first | refine vl ?_ | refine fB S ?_ | refine fS S rfl rfl ?_ | refine fA ?_)); (first | refine off ?_ | (first | refine lB S rfl rfl ?_ | refine lES2 S rfl rfl ?_ | refine lEB S ?_ | refine lH S ?_)); (first | (refine off ?_; (first | refine off ?_ | (first | refine cT ?_ | refine cF ?_ | (refine cS ?_ ?_ <;> intro hc))) <;> (refine vl ?_; refine mv ?_; refine KO_nil ?_)) | skip))))
          (refine KO_fn rfl rfl rfl rfl rfl ((who_ok S.wf v p (H.ext w S.ext) r.b).mono ?_); rintro _ h ⟨rfl, x⟩) <;> (replace S := S.join0 x; clear x; (first | refine off ?_ | (first | refine cT ?_ | refine cF ?_ | (refine cS ?_ ?_ <;> intro hc))) <;> (refine vl ?_; refine mv ?_; refine KO_nil ?_))
          all_goals (repeat' (first | refine K_seq ?_ | refine k_cond rfl ?_ | refine K_skip ?_ | refine K_exit ?_ | refine k_block ?_ | refine K_scope ?_ | refine K_label ?_ | (refine K_region (id := 9) ?_; (first | refine vl ?_ | refine fB S ?_ | refine fS S rfl rfl ?_ | refine fA ?_); (first | refine lB S rfl rfl ?_ | refine lES2 S rfl rfl ?_ | refine lEB S ?_ | refine lH S ?_); refine mv ?_; (first | refine off ?_ | (first | refine lB S rfl rfl ?_ | refine lES2 S rfl rfl ?_ | refine lEB S ?_ | refine lH S ?_)); (first | refine off ?_ | (first | refine vl ?_ | refine fB S ?_ | refine fS S rfl rfl ?_ | refine fA ?_)); (first | refine off ?_ | (first | refine lB S rfl rfl ?_ | refine lES2 S rfl rfl ?_ | refine lEB S ?_ | refine lH S ?_)); (first | (refine off ?_; (first | refine off ?_ | (first | refine cT ?_ | refine cF ?_ | (refine cS ?_ ?_ <;> intro hc))) <;> (refine vl ?_; refine mv ?_; refine KO_nil ?_)) | skip))))
          · exact ⟨true, ⟨S, fun _ => .inr (.inr ⟨rfl, gI_none.1 hc⟩), fun _ => rfl⟩, ((by repeat (first | exact Ks.le_nil _ | refine Ks.le_cons rfl ?_ | refine Ks.le_int ?_)))⟩
          · exact ⟨false, ⟨S, fun q => (by cases q), fun q => q.elim (fun q => absurd q ha1) fun q => q.elim (fun q => absurd q ha2) fun q => absurd q.2 (gI_lt.1 hc)⟩, ((by repeat (first | exact Ks.le_nil _ | refine Ks.le_cons rfl ?_ | refine Ks.le_int ?_)))⟩
      · have h103 : ka ≠ 103 := hc
        have ha1 : ¬ (ka = 103 ∧ gat p.us r.a = none) := fun q => h103 q.1
        all_goals (repeat' (first | refine K_seq ?_ | refine k_cond rfl ?_ | refine K_skip ?_ | refine K_exit ?_ | refine k_block ?_ | refine K_scope ?_ | refine K_label ?_ | (refine K_region (id := 8) ?_; (first | refine vl ?_ | refine fB S ?_ | refine fS S rfl rfl ?_ | refine fA ?_); (first | refine lB S rfl rfl ?_ | refine lES2 S rfl rfl ?_ | refine lEB S ?_ | refine lH S ?_); (first | refine cT ?_ | refine cF ?_ | (refine cS ?_ ?_ <;> intro hc)) <;> (refine mv ?_; (first | refine off ?_ | (first | refine vl ?_ | refine fB S ?_ | refine fS S rfl rfl ?_ | refine fA ?_)); (first | refine off ?_ | (first | refine lB S rfl rfl ?_ | refine lES2 S rfl rfl ?_ | refine lEB S ?_ | refine lH S ?_)); (first | refine off ?_ | (refine tS ?_ ?_ <;> intro hc)) <;> (refine vl ?_; refine mv ?_; (first | refine off ?_ | (first | refine lB S rfl rfl ?_ | refine lES2 S rfl rfl ?_ | refine lEB S ?_ | refine lH S ?_)); (first | refine off ?_ | (first | refine vl ?_ | refine fB S ?_ | refine fS S rfl rfl ?_ | refine fA ?_)); (first | refine off ?_ | (first | refine lB S rfl rfl ?_ | refine lES2 S rfl rfl ?_ | refine lEB S ?_ | refine lH S ?_)); (first | (refine off ?_; (first | refine off ?_ | (first | refine cT ?_ | refine cF ?_ | (refine cS ?_ ?_ <;> intro hc))) <;> (refine vl ?_; refine mv ?_; refine KO_nil ?_)) | skip))))))
        · have ha2 : ¬ (ka = 101 ∧ r.a ≠ [] ∧ gat p.us r.a = none) := fun q => q.2.1 hc
          cases kb
          · all_goals (repeat' (first | refine K_seq ?_ | refine k_cond rfl ?_ | refine K_skip ?_ | refine K_exit ?_ | refine k_block ?_ | refine K_scope ?_ | refine K_label ?_ | (refine K_region (id := 9) ?_; (first | refine vl ?_ | refine fB S ?_ | refine fS S rfl rfl ?_ | refine fA ?_); (first | refine lB S rfl rfl ?_ | refine lES2 S rfl rfl ?_ | refine lEB S ?_ | refine lH S ?_); refine mv ?_; (first | refine off ?_ | (first | refine lB S rfl rfl ?_ | refine lES2 S rfl rfl ?_ | refine lEB S ?_ | refine lH S ?_)); (first | refine off ?_ | (first | refine vl ?_ | refine fB S ?_ | refine fS S rfl rfl ?_ | refine fA ?_)); (first | refine off ?_ | (first | refine lB S rfl rfl ?_ | refine lES2 S rfl rfl ?_ | refine lEB S ?_ | refine lH S ?_)); (first | (refine off ?_; (first | refine off ?_ | (first | refine cT ?_ | refine cF ?_ | (refine cS ?_ ?_ <;> intro hc))) <;> (refine vl ?_; refine mv ?_; refine KO_nil ?_)) | skip))))
            exact ⟨false, ⟨S, fun q => (by cases q), fun q => q.elim (fun q => absurd q ha1) fun q => q.elim (fun q => absurd q ha2) fun q => (by cases q.1)⟩, ((by repeat (first | exact Ks.le_nil _ | refine Ks.le_cons rfl ?_ | refine Ks.le_int ?_)))⟩
          · all_goals (repeat' (first | refine K_seq ?_ | refine k_cond rfl ?_ | refine K_skip ?_ | refine K_exit ?_ | refine k_block ?_ | refine K_scope ?_ | refine K_label ?_ | (refine K_region (id := 9) ?_; (first | refine vl ?_ | refine fB S ?_ | refine fS S rfl rfl ?_ | refine fA ?_); (first | refine lB S rfl rfl ?_ | refine lES2 S rfl rfl ?_ | refine lEB S ?_ | refine lH S ?_); refine mv ?_; (first | refine off ?_ | (first | refine lB S rfl rfl ?_ | refine lES2 S rfl rfl ?_ | refine lEB S ?_ | refine lH S ?_)); (first | refine off ?_ | (first | refine vl ?_ | refine fB S ?_ | refine fS S rfl rfl ?_ | refine fA ?_)); (first | refine off ?_ | (first | refine lB S rfl rfl ?_ | refine lES2 S rfl rfl ?_ | refine lEB S ?_ | refine lH S ?_)); (first | (refine off ?_; (first | refine off ?_ | (first | refine cT ?_ | refine cF ?_ | (refine cS ?_ ?_ <;> intro hc))) <;> (refine vl ?_; refine mv ?_; refine KO_nil ?_)) | skip))))
            (refine KO_fn rfl rfl rfl rfl rfl ((who_ok S.wf v p (H.ext w S.ext) r.b).mono ?_); rintro _ h ⟨rfl, x⟩) <;> (replace S := S.join0 x; clear x; (first | refine off ?_ | (first | refine cT ?_ | refine cF ?_ | (refine cS ?_ ?_ <;> intro hc))) <;> (refine vl ?_; refine mv ?_; refine KO_nil ?_))
            all_goals (repeat' (first | refine K_seq ?_ | refine k_cond rfl ?_ | refine K_skip ?_ | refine K_exit ?_ | refine k_block ?_ | refine K_scope ?_ | refine K_label ?_ | (refine K_region (id := 9) ?_; (first | refine vl ?_ | refine fB S ?_ | refine fS S rfl rfl ?_ | refine fA ?_); (first | refine lB S rfl rfl ?_ | refine lES2 S rfl rfl ?_ | refine lEB S ?_ | refine lH S ?_); refine mv ?_; (first | refine off ?_ | (first | refine lB S rfl rfl ?_ | refine lES2 S rfl rfl ?_ | refine lEB S ?_ | refine lH S ?_)); (first | refine off ?_ | (first | refine vl ?_ | refine fB S ?_ | refine fS S rfl rfl ?_ | refine fA ?_)); (first | refine off ?_ | (first | refine lB S rfl rfl ?_ | refine lES2 S rfl rfl ?_ | refine lEB S ?_ | refine lH S ?_)); (first | (refine off ?_; (first | refine off ?_ | (first | refine cT ?_ | refine cF ?_ | (refine cS ?_ ?_ <;> intro hc))) <;> (refine vl ?_; refine mv ?_; refine KO_nil ?_)) | skip))))
            · exact ⟨true, ⟨S, fun _ => .inr (.inr ⟨rfl, gI_none.1 hc⟩), fun _ => rfl⟩, ((by repeat (first | exact Ks.le_nil _ | refine Ks.le_cons rfl ?_ | refine Ks.le_int ?_)))⟩
            · exact ⟨false, ⟨S, fun q => (by cases q), fun q => q.elim (fun q => absurd q ha1) fun q => q.elim (fun q => absurd q ha2) fun q => absurd q.2 (gI_lt.1 hc)⟩, ((by repeat (first | exact Ks.le_nil _ | refine Ks.le_cons rfl ?_ | refine Ks.le_int ?_)))⟩
        · have h101 : ka = 101 := by assumption
          have hne : r.a ≠ [] := hc
          (refine KO_fn rfl rfl rfl rfl rfl ((who_ok S.wf v p (H.ext w S.ext) r.a).mono ?_); rintro _ h ⟨rfl, x⟩) <;> (replace S := S.join0 x; clear x; (first | refine off ?_ | (first | refine cT ?_ | refine cF ?_ | (refine cS ?_ ?_ <;> intro hc))) <;> (refine vl ?_; refine mv ?_; refine KO_nil ?_))
          all_goals (repeat' (first | refine K_seq ?_ | refine k_cond rfl ?_ | refine K_skip ?_ | refine K_exit ?_ | refine k_block ?_ | refine K_scope ?_ | refine K_label ?_ | (refine K_region (id := 8) ?_; (first | refine vl ?_ | refine fB S ?_ | refine fS S rfl rfl ?_ | refine fA ?_); (first | refine lB S rfl rfl ?_ | refine lES2 S rfl rfl ?_ | refine lEB S ?_ | refine lH S ?_); (first | refine cT ?_ | refine cF ?_ | (refine cS ?_ ?_ <;> intro hc)) <;> (refine mv ?_; (first | refine off ?_ | (first | refine vl ?_ | refine fB S ?_ | refine fS S rfl rfl ?_ | refine fA ?_)); (first | refine off ?_ | (first | refine lB S rfl rfl ?_ | refine lES2 S rfl rfl ?_ | refine lEB S ?_ | refine lH S ?_)); (first | refine off ?_ | (refine tS ?_ ?_ <;> intro hc)) <;> (refine vl ?_; refine mv ?_; (first | refine off ?_ | (first | refine lB S rfl rfl ?_ | refine lES2 S rfl rfl ?_ | refine lEB S ?_ | refine lH S ?_)); (first | refine off ?_ | (first | refine vl ?_ | refine fB S ?_ | refine fS S rfl rfl ?_ | refine fA ?_)); (first | refine off ?_ | (first | refine lB S rfl rfl ?_ | refine lES2 S rfl rfl ?_ | refine lEB S ?_ | refine lH S ?_)); (first | (refine off ?_; (first | refine off ?_ | (first | refine cT ?_ | refine cF ?_ | (refine cS ?_ ?_ <;> intro hc))) <;> (refine vl ?_; refine mv ?_; refine KO_nil ?_)) | skip))))))
          · exact ⟨true, ⟨S, fun _ => .inr (.inl ⟨h101, hne, gI_none.1 hc⟩), fun _ => rfl⟩, ((by repeat (first | exact Ks.le_nil _ | refine Ks.le_cons rfl ?_ | refine Ks.le_int ?_)))⟩
          have ha2 : ¬ (ka = 101 ∧ r.a ≠ [] ∧ gat p.us r.a = none) := fun q => gI_lt.1 hc q.2.2
          cases kb
          · all_goals (repeat' (first | refine K_seq ?_ | refine k_cond rfl ?_ | refine K_skip ?_ | refine K_exit ?_ | refine k_block ?_ | refine K_scope ?_ | refine K_label ?_ | (refine K_region (id := 9) ?_; (first | refine vl ?_ | refine fB S ?_ | refine fS S rfl rfl ?_ | refine fA ?_); (first | refine lB S rfl rfl ?_ | refine lES2 S rfl rfl ?_ | refine lEB S ?_ | refine lH S ?_); refine mv ?_; (first | refine off ?_ | (first | refine lB S rfl rfl ?_ | refine lES2 S rfl rfl ?_ | refine lEB S ?_ | refine lH S ?_)); (first | refine off ?_ | (first | refine vl ?_ | refine fB S ?_ | refine fS S rfl rfl ?_ | refine fA ?_)); (first | refine off ?_ | (first | refine lB S rfl rfl ?_ | refine lES2 S rfl rfl ?_ | refine lEB S ?_ | refine lH S ?_)); (first | (refine off ?_; (first | refine off ?_ | (first | refine cT ?_ | refine cF ?_ | (refine cS ?_ ?_ <;> intro hc))) <;> (refine vl ?_; refine mv ?_; refine KO_nil ?_)) | skip))))
            exact ⟨false, ⟨S, fun q => (by cases q), fun q => q.elim (fun q => absurd q ha1) fun q => q.elim (fun q => absurd q ha2) fun q => (by cases q.1)⟩, ((by repeat (first | exact Ks.le_nil _ | refine Ks.le_cons rfl ?_ | refine Ks.le_int ?_)))⟩
          · all_goals (repeat' (first | refine K_seq ?_ | refine k_cond rfl ?_ | refine K_skip ?_ | refine K_exit ?_ | refine k_block ?_ | refine K_scope ?_ | refine K_label ?_ | (refine K_region (id := 9) ?_; (first | refine vl ?_ | refine fB S ?_ | refine fS S rfl rfl ?_ | refine fA ?_); (first | refine lB S rfl rfl ?_ | refine lES2 S rfl rfl ?_ | refine lEB S ?_ | refine lH S ?_); refine mv ?_; (first | refine off ?_ | (first | refine lB S rfl rfl ?_ | refine lES2 S rfl rfl ?_ | refine lEB S ?_ | refine lH S ?_)); (first | refine off ?_ | (first | refine vl ?_ | refine fB S ?_ | refine fS S rfl rfl ?_ | refine fA ?_)); (first | refine off ?_ | (first | refine lB S rfl rfl ?_ | refine lES2 S rfl rfl ?_ | refine lEB S ?_ | refine lH S ?_)); (first | (refine off ?_; (first | refine off ?_ | (first | refine cT ?_ | refine cF ?_ | (refine cS ?_ ?_ <;> intro hc))) <;> (refine vl ?_; refine mv ?_; refine KO_nil ?_)) | skip))))
            (refine KO_fn rfl rfl rfl rfl rfl ((who_ok S.wf v p (H.ext w S.ext) r.b).mono ?_); rintro _ h ⟨rfl, x⟩) <;> (replace S := S.join0 x; clear x; (first | refine off ?_ | (first | refine cT ?_ | refine cF ?_ | (refine cS ?_ ?_ <;> intro hc))) <;> (refine vl ?_; refine mv ?_; refine KO_nil ?_))
            all_goals (repeat' (first | refine K_seq ?_ | refine k_cond rfl ?_ | refine K_skip ?_ | refine K_exit ?_ | refine k_block ?_ | refine K_scope ?_ | refine K_label ?_ | (refine K_region (id := 9) ?_; (first | refine vl ?_ | refine fB S ?_ | refine fS S rfl rfl ?_ | refine fA ?_); (first | refine lB S rfl rfl ?_ | refine lES2 S rfl rfl ?_ | refine lEB S ?_ | refine lH S ?_); refine mv ?_; (first | refine off ?_ | (first | refine lB S rfl rfl ?_ | refine lES2 S rfl rfl ?_ | refine lEB S ?_ | refine lH S ?_)); (first | refine off ?_ | (first | refine vl ?_ | refine fB S ?_ | refine fS S rfl rfl ?_ | refine fA ?_)); (first | refine off ?_ | (first | refine lB S rfl rfl ?_ | refine lES2 S rfl rfl ?_ | refine lEB S ?_ | refine lH S ?_)); (first | (refine off ?_; (first | refine off ?_ | (first | refine cT ?_ | refine cF ?_ | (refine cS ?_ ?_ <;> intro hc))) <;> (refine vl ?_; refine mv ?_; refine KO_nil ?_)) | skip))))
            · exact ⟨true, ⟨S, fun _ => .inr (.inr ⟨rfl, gI_none.1 hc⟩), fun _ => rfl⟩, ((by repeat (first | exact Ks.le_nil _ | refine Ks.le_cons rfl ?_ | refine Ks.le_int ?_)))⟩
            · exact ⟨false, ⟨S, fun q => (by cases q), fun q => q.elim (fun q => absurd q ha1) fun q => q.elim (fun q => absurd q ha2) fun q => absurd q.2 (gI_lt.1 hc)⟩, ((by repeat (first | exact Ks.le_nil _ | refine Ks.le_cons rfl ?_ | refine Ks.le_int ?_)))⟩
        · have ha2 : ¬ (ka = 101 ∧ r.a ≠ [] ∧ gat p.us r.a = none) := fun q => hc q.1
          cases kb
          · all_goals (repeat' (first | refine K_seq ?_ | refine k_cond rfl ?_ | refine K_skip ?_ | refine K_exit ?_ | refine k_block ?_ | refine K_scope ?_ | refine K_label ?_ | (refine K_region (id := 9) ?_; (first | refine vl ?_ | refine fB S ?_ | refine fS S rfl rfl ?_ | refine fA ?_); (first | refine lB S rfl rfl ?_ | refine lES2 S rfl rfl ?_ | refine lEB S ?_ | refine lH S ?_); refine mv ?_; (first | refine off ?_ | (first | refine lB S rfl rfl ?_ | refine lES2 S rfl rfl ?_ | refine lEB S ?_ | refine lH S ?_)); (first | refine off ?_ | (first | refine vl ?_ | refine fB S ?_ | refine fS S rfl rfl ?_ | refine fA ?_)); (first | refine off ?_ | (first | refine lB S rfl rfl ?_ | refine lES2 S rfl rfl ?_ | refine lEB S ?_ | refine lH S ?_)); (first | (refine off ?_; (first | refine off ?_ | (first | refine cT ?_ | refine cF ?_ | (refine cS ?_ ?_ <;> intro hc))) <;> (refine vl ?_; refine mv ?_; refine KO_nil ?_)) | skip))))
            exact ⟨false, ⟨S, fun q => (by cases q), fun q => q.elim (fun q => absurd q ha1) fun q => q.elim (fun q => absurd q ha2) fun q => (by cases q.1)⟩, ((by repeat (first | exact Ks.le_nil _ | refine Ks.le_cons rfl ?_ | refine Ks.le_int ?_)))⟩
          · all_goals (repeat' (first | refine K_seq ?_ | refine k_cond rfl ?_ | refine K_skip ?_ | refine K_exit ?_ | refine k_block ?_ | refine K_scope ?_ | refine K_label ?_ | (refine K_region (id := 9) ?_; (first | refine vl ?_ | refine fB S ?_ | refine fS S rfl rfl ?_ | refine fA ?_); (first | refine lB S rfl rfl ?_ | refine lES2 S rfl rfl ?_ | refine lEB S ?_ | refine lH S ?_); refine mv ?_; (first | refine off ?_ | (first | refine lB S rfl rfl ?_ | refine lES2 S rfl rfl ?_ | refine lEB S ?_ | refine lH S ?_)); (first | refine off ?_ | (first | refine vl ?_ | refine fB S ?_ | refine fS S rfl rfl ?_ | refine fA ?_)); (first | refine off ?_ | (first | refine lB S rfl rfl ?_ | refine lES2 S rfl rfl ?_ | refine lEB S ?_ | refine lH S ?_)); (first | (refine off ?_; (first | refine off ?_ | (first | refine cT ?_ | refine cF ?_ | (refine cS ?_ ?_ <;> intro hc))) <;> (refine vl ?_; refine mv ?_; refine KO_nil ?_)) | skip))))
            (refine KO_fn rfl rfl rfl rfl rfl ((who_ok S.wf v p (H.ext w S.ext) r.b).mono ?_); rintro _ h ⟨rfl, x⟩) <;> (replace S := S.join0 x; clear x; (first | refine off ?_ | (first | refine cT ?_ | refine cF ?_ | (refine cS ?_ ?_ <;> intro hc))) <;> (refine vl ?_; refine mv ?_; refine KO_nil ?_))
            all_goals (repeat' (first | refine K_seq ?_ | refine k_cond rfl ?_ | refine K_skip ?_ | refine K_exit ?_ | refine k_block ?_ | refine K_scope ?_ | refine K_label ?_ | (refine K_region (id := 9) ?_; (first | refine vl ?_ | refine fB S ?_ | refine fS S rfl rfl ?_ | refine fA ?_); (first | refine lB S rfl rfl ?_ | refine lES2 S rfl rfl ?_ | refine lEB S ?_ | refine lH S ?_); refine mv ?_; (first | refine off ?_ | (first | refine lB S rfl rfl ?_ | refine lES2 S rfl rfl ?_ | refine lEB S ?_ | refine lH S ?_)); (first | refine off ?_ | (first | refine vl ?_ | refine fB S ?_ | refine fS S rfl rfl ?_ | refine fA ?_)); (first | refine off ?_ | (first | refine lB S rfl rfl ?_ | refine lES2 S rfl rfl ?_ | refine lEB S ?_ | refine lH S ?_)); (first | (refine off ?_; (first | refine off ?_ | (first | refine cT ?_ | refine cF ?_ | (refine cS ?_ ?_ <;> intro hc))) <;> (refine vl ?_; refine mv ?_; refine KO_nil ?_)) | skip))))
            · exact ⟨true, ⟨S, fun _ => .inr (.inr ⟨rfl, gI_none.1 hc⟩), fun _ => rfl⟩, ((by repeat (first | exact Ks.le_nil _ | refine Ks.le_cons rfl ?_ | refine Ks.le_int ?_)))⟩
            · exact ⟨false, ⟨S, fun q => (by cases q), fun q => q.elim (fun q => absurd q ha1) fun q => q.elim (fun q => absurd q ha2) fun q => absurd q.2 (gI_lt.1 hc)⟩, ((by repeat (first | exact Ks.le_nil _ | refine Ks.le_cons rfl ?_ | refine Ks.le_int ?_)))⟩
    clear S
    rintro c h ⟨S, hu⟩
    cases c
    · have hun : ¬ (Kd.mk ka kb kt kn lo st).unk p.us r := fun q => by have := hu.2 q; cases this
      all_goals (repeat' (first | refine K_seq ?_ | refine k_cond rfl ?_ | refine K_skip ?_ | refine K_exit ?_ | refine k_block ?_ | refine K_scope ?_ | refine K_label ?_ | (refine K_region (id := 11) ?_; (first | refine vl ?_ | refine fB S ?_ | refine fS S rfl rfl ?_ | refine fA ?_); (first | refine lB S rfl rfl ?_ | refine lES2 S rfl rfl ?_ | refine lEB S ?_ | refine lH S ?_); (first | refine cT ?_ | refine cF ?_ | (refine cS ?_ ?_ <;> intro hc)) <;> (refine mv ?_; (first | refine off ?_ | (first | refine vl ?_ | refine fB S ?_ | refine fS S rfl rfl ?_ | refine fA ?_)); (first | refine off ?_ | (first | refine lB S rfl rfl ?_ | refine lES2 S rfl rfl ?_ | refine lEB S ?_ | refine lH S ?_)); (first | (refine off ?_; (first | refine off ?_ | refine vl ?_); refine vl ?_; refine mv ?_; refine KO_nil ?_) | skip)))))
      · have h100 : ka = 100 := hc
        (refine KO_fn rfl rfl rfl rfl rfl ((rname_ok r.a).mono ?_); rintro _ _ ⟨⟨rfl, hn⟩ | ⟨rfl, hn⟩, rfl⟩) <;> ((first | refine off ?_ | refine vl ?_); refine vl ?_; refine mv ?_; refine KO_nil ?_)
        · have hnm : ¬ (ka = 100 ∧ ¬ nameP r.a) := fun q => q.2 hn
          all_goals (repeat' (first | refine K_seq ?_ | refine k_cond rfl ?_ | refine K_skip ?_ | refine K_exit ?_ | refine k_block ?_ | refine K_scope ?_ | refine K_label ?_ | (refine K_region (id := 12) ?_; refine mv ?_; refine KO_nil ?_)))
          cases kb
          · all_goals (repeat' (first | refine K_seq ?_ | refine k_cond rfl ?_ | refine K_skip ?_ | refine K_exit ?_ | refine k_block ?_ | refine K_scope ?_ | refine K_label ?_ | (refine K_region (id := 13) ?_; (first | refine vl ?_ | refine fB S ?_ | refine fS S rfl rfl ?_ | refine fA ?_); (first | refine lB S rfl rfl ?_ | refine lES2 S rfl rfl ?_ | refine lEB S ?_ | refine lH S ?_); refine mv ?_; (first | refine off ?_ | (first | refine vl ?_ | refine fB S ?_ | refine fS S rfl rfl ?_ | refine fA ?_)); (first | refine off ?_ | (first | refine lB S rfl rfl ?_ | refine lES2 S rfl rfl ?_ | refine lEB S ?_ | refine lH S ?_)); (first | refine off ?_ | (first | refine vl ?_ | refine fB S ?_ | refine fS S rfl rfl ?_ | refine fA ?_)); (first | refine off ?_ | (first | refine lB S rfl rfl ?_ | refine lES2 S rfl rfl ?_ | refine lEB S ?_ | refine lH S ?_)); (first | refine off ?_ | (refine tS ?_ ?_ <;> intro hc)) <;> (refine vl ?_; refine mv ?_; refine KO_nil ?_))))
            exact ⟨(), ⟨S, ⟨hww, hp, hun, hnm⟩, fun q => (by cases q.1)⟩, ((by repeat (first | exact Ks.le_nil _ | refine Ks.le_cons rfl ?_ | refine Ks.le_int ?_)))⟩
          · all_goals (repeat' (first | refine K_seq ?_ | refine k_cond rfl ?_ | refine K_skip ?_ | refine K_exit ?_ | refine k_block ?_ | refine K_scope ?_ | refine K_label ?_ | (refine K_region (id := 13) ?_; (first | refine vl ?_ | refine fB S ?_ | refine fS S rfl rfl ?_ | refine fA ?_); (first | refine lB S rfl rfl ?_ | refine lES2 S rfl rfl ?_ | refine lEB S ?_ | refine lH S ?_); refine mv ?_; (first | refine off ?_ | (first | refine vl ?_ | refine fB S ?_ | refine fS S rfl rfl ?_ | refine fA ?_)); (first | refine off ?_ | (first | refine lB S rfl rfl ?_ | refine lES2 S rfl rfl ?_ | refine lEB S ?_ | refine lH S ?_)); (first | refine off ?_ | (first | refine vl ?_ | refine fB S ?_ | refine fS S rfl rfl ?_ | refine fA ?_)); (first | refine off ?_ | (first | refine lB S rfl rfl ?_ | refine lES2 S rfl rfl ?_ | refine lEB S ?_ | refine lH S ?_)); (first | refine off ?_ | (refine tS ?_ ?_ <;> intro hc)) <;> (refine vl ?_; refine mv ?_; refine KO_nil ?_)) | (refine K_region (id := 14) ?_; refine mv ?_; refine KO_nil ?_)))
            · refine K_ret ⟨_, rfl, ?_⟩
              exact ⟨by rw [Kd.err5 ⟨hww, hp, hun, hnm⟩ ⟨rfl, hc⟩]; rfl, S.drop⟩
            · exact ⟨(), ⟨S, ⟨hww, hp, hun, hnm⟩, fun q => hc q.2⟩, ((by repeat (first | exact Ks.le_nil _ | refine Ks.le_cons rfl ?_ | refine Ks.le_int ?_)))⟩
        · all_goals (repeat' (first | refine K_seq ?_ | refine k_cond rfl ?_ | refine K_skip ?_ | refine K_exit ?_ | refine k_block ?_ | refine K_scope ?_ | refine K_label ?_ | (refine K_region (id := 12) ?_; refine mv ?_; refine KO_nil ?_)))
          refine K_ret ⟨_, rfl, ?_⟩
          exact ⟨by rw [Kd.err4 hww hp hun ⟨h100, hn⟩]; rfl, S.drop⟩
      · have hnm : ¬ (ka = 100 ∧ ¬ nameP r.a) := fun q => hc q.1
        cases kb
        · all_goals (repeat' (first | refine K_seq ?_ | refine k_cond rfl ?_ | refine K_skip ?_ | refine K_exit ?_ | refine k_block ?_ | refine K_scope ?_ | refine K_label ?_ | (refine K_region (id := 13) ?_; (first | refine vl ?_ | refine fB S ?_ | refine fS S rfl rfl ?_ | refine fA ?_); (first | refine lB S rfl rfl ?_ | refine lES2 S rfl rfl ?_ | refine lEB S ?_ | refine lH S ?_); refine mv ?_; (first | refine off ?_ | (first | refine vl ?_ | refine fB S ?_ | refine fS S rfl rfl ?_ | refine fA ?_)); (first | refine off ?_ | (first | refine lB S rfl rfl ?_ | refine lES2 S rfl rfl ?_ | refine lEB S ?_ | refine lH S ?_)); (first | refine off ?_ | (first | refine vl ?_ | refine fB S ?_ | refine fS S rfl rfl ?_ | refine fA ?_)); (first | refine off ?_ | (first | refine lB S rfl rfl ?_ | refine lES2 S rfl rfl ?_ | refine lEB S ?_ | refine lH S ?_)); (first | refine off ?_ | (refine tS ?_ ?_ <;> intro hc)) <;> (refine vl ?_; refine mv ?_; refine KO_nil ?_))))
          exact ⟨(), ⟨S, ⟨hww, hp, hun, hnm⟩, fun q => (by cases q.1)⟩, ((by repeat (first | exact Ks.le_nil _ | refine Ks.le_cons rfl ?_ | refine Ks.le_int ?_)))⟩
        · all_goals (repeat' (first | refine K_seq ?_ | refine k_cond rfl ?_ | refine K_skip ?_ | refine K_exit ?_ | refine k_block ?_ | refine K_scope ?_ | refine K_label ?_ | (refine K_region (id := 13) ?_; (first | refine vl ?_ | refine fB S ?_ | refine fS S rfl rfl ?_ | refine fA ?_); (first | refine lB S rfl rfl ?_ | refine lES2 S rfl rfl ?_ | refine lEB S ?_ | refine lH S ?_); refine mv ?_; (first | refine off ?_ | (first | refine vl ?_ | refine fB S ?_ | refine fS S rfl rfl ?_ | refine fA ?_)); (first | refine off ?_ | (first | refine lB S rfl rfl ?_ | refine lES2 S rfl rfl ?_ | refine lEB S ?_ | refine lH S ?_)); (first | refine off ?_ | (first | refine vl ?_ | refine fB S ?_ | refine fS S rfl rfl ?_ | refine fA ?_)); (first | refine off ?_ | (first | refine lB S rfl rfl ?_ | refine lES2 S rfl rfl ?_ | refine lEB S ?_ | refine lH S ?_)); (first | refine off ?_ | (refine tS ?_ ?_ <;> intro hc)) <;> (refine vl ?_; refine mv ?_; refine KO_nil ?_)) | (refine K_region (id := 14) ?_; refine mv ?_; refine KO_nil ?_)))
          · refine K_ret ⟨_, rfl, ?_⟩
            exact ⟨by rw [Kd.err5 ⟨hww, hp, hun, hnm⟩ ⟨rfl, hc⟩]; rfl, S.drop⟩
          · exact ⟨(), ⟨S, ⟨hww, hp, hun, hnm⟩, fun q => hc q.2⟩, ((by repeat (first | exact Ks.le_nil _ | refine Ks.le_cons rfl ?_ | refine Ks.le_int ?_)))⟩
    · have hun : (Kd.mk ka kb kt kn lo st).unk p.us r := hu.1 rfl
      all_goals (repeat' (first | refine K_seq ?_ | refine k_cond rfl ?_ | refine K_skip ?_ | refine K_exit ?_ | refine k_block ?_ | refine K_scope ?_ | refine K_label ?_ | (refine K_region (id := 10) ?_; refine mv ?_; refine KO_nil ?_)))
      refine K_ret ⟨_, rfl, ?_⟩
      exact ⟨by rw [Kd.err6 hww hp hun]; rfl, S.drop⟩
  clear S
  rintro _ h ⟨S, ho, h5⟩
  skip
  (repeat (refine K_seq ?_)); first | refine K_join1 (σ := Int × Bool) (fun (i, c) h' => Hs h0 h' [.blk b (eRu r) 108, .blk b4 v.cs 33, .blk b3 (eKd wd (Kd.mk ka kb kt kn lo st) f) 116] ∧ ((c = true ∧ hasT p.tabs r.t ∧ i = tix p.tabs r.t ∧ tix p.tabs r.t < p.tabs.length) ∨ (c = false ∧ ¬ hasT p.tabs r.t))) (fun (i, c) => [(3, .pointer (some ⟨b3, 0, none⟩)), (4, .pointer (some ⟨b4, 0, none⟩)), (5, .pointer (some ⟨b, 0, none⟩)), (6, .int .i64 0), (7, .int .i64 i), (8, .bool c)]) ?_ ?_ | refine K_cut (σ := Int × Bool) (fun (i, c) h' => Hs h0 h' [.blk b (eRu r) 108, .blk b4 v.cs 33, .blk b3 (eKd wd (Kd.mk ka kb kt kn lo st) f) 116] ∧ ((c = true ∧ hasT p.tabs r.t ∧ i = tix p.tabs r.t ∧ tix p.tabs r.t < p.tabs.length) ∨ (c = false ∧ ¬ hasT p.tabs r.t))) (fun (i, c) => [(3, .pointer (some ⟨b3, 0, none⟩)), (4, .pointer (some ⟨b4, 0, none⟩)), (5, .pointer (some ⟨b, 0, none⟩)), (6, .int .i64 0), (7, .int .i64 i), (8, .bool c)]) ?_ ?_
  · all_goals (repeat' (first | refine K_seq ?_ | refine k_cond rfl ?_ | refine K_skip ?_ | refine K_exit ?_ | refine k_block ?_ | refine K_scope ?_ | refine K_label ?_ | (refine K_region (id := 15) ?_; (first | refine vl ?_ | refine fB S ?_ | refine fS S rfl rfl ?_ | refine fA ?_); (first | refine lB S rfl rfl ?_ | refine lES2 S rfl rfl ?_ | refine lEB S ?_ | refine lH S ?_); (first | refine vl ?_ | refine fB S ?_ | refine fS S rfl rfl ?_ | refine fA ?_); (first | refine lB S rfl rfl ?_ | refine lES2 S rfl rfl ?_ | refine lEB S ?_ | refine lH S ?_))))
    (refine KO_fn rfl rfl rfl rfl rfl ((hfind_ok S.wf v.vt.val p.tabs (H.tab.ext w S.ext) r.t).mono ?_); rintro _ h ⟨⟨k, rfl, -, hk, hn, hmin⟩ | ⟨rfl, hnot⟩, x⟩) <;> (replace S := S.join0 x; clear x; refine mv ?_; refine vl ?_; refine vl ?_; refine mv ?_; refine mv ?_; refine KO_nil ?_)
    · all_goals (repeat' (first | refine K_seq ?_ | refine k_cond rfl ?_ | refine K_skip ?_ | refine K_exit ?_ | refine k_block ?_ | refine K_scope ?_ | refine K_label ?_ | (refine K_region (id := 15) ?_; (first | refine vl ?_ | refine fB S ?_ | refine fS S rfl rfl ?_ | refine fA ?_); (first | refine lB S rfl rfl ?_ | refine lES2 S rfl rfl ?_ | refine lEB S ?_ | refine lH S ?_); (first | refine vl ?_ | refine fB S ?_ | refine fS S rfl rfl ?_ | refine fA ?_); (first | refine lB S rfl rfl ?_ | refine lES2 S rfl rfl ?_ | refine lEB S ?_ | refine lH S ?_))))
      exact ⟨((k : Int), true), ⟨S, .inl ⟨rfl, ⟨k, hk, hn⟩, by rw [tix_eq hk hn hmin], by rw [tix_eq hk hn hmin]; exact hk⟩⟩, ((by repeat (first | exact Ks.le_nil _ | refine Ks.le_cons rfl ?_ | refine Ks.le_int ?_)))⟩
    · all_goals (repeat' (first | refine K_seq ?_ | refine k_cond rfl ?_ | refine K_skip ?_ | refine K_exit ?_ | refine k_block ?_ | refine K_scope ?_ | refine K_label ?_ | (refine K_region (id := 15) ?_; (first | refine vl ?_ | refine fB S ?_ | refine fS S rfl rfl ?_ | refine fA ?_); (first | refine lB S rfl rfl ?_ | refine lES2 S rfl rfl ?_ | refine lEB S ?_ | refine lH S ?_); (first | refine vl ?_ | refine fB S ?_ | refine fS S rfl rfl ?_ | refine fA ?_); (first | refine lB S rfl rfl ?_ | refine lES2 S rfl rfl ?_ | refine lEB S ?_ | refine lH S ?_))))
      exact ⟨(0, false), ⟨S, .inr ⟨rfl, fun ⟨j, hj, hn⟩ => hnot.elim (fun q => q hv) fun q => q j hj hn⟩⟩, ((by repeat (first | exact Ks.le_nil _ | refine Ks.le_cons rfl ?_ | refine Ks.le_int ?_)))⟩
  clear S
  rintro ⟨i, c⟩ h ⟨S, hf⟩
  skip
  (repeat (refine K_seq ?_)); first | refine K_joinR (σ := Unit) (fun _ h' => Hs h0 h' [.blk b (eRu r) 108, .blk b4 v.cs 33, .blk b3 (eKd wd (Kd.mk ka kb kt kn lo st) f) 116] ∧ ¬ (Kd.mk ka kb kt kn lo st).ut p.tabs r) (fun _ => [(3, .pointer (some ⟨b3, 0, none⟩)), (4, .pointer (some ⟨b4, 0, none⟩)), (5, .pointer (some ⟨b, 0, none⟩)), (6, .int .i64 0), (7, .int .i64 i), (8, .bool c)]) ?_ ?_ | refine K_join (σ := Unit) (fun _ h' => Hs h0 h' [.blk b (eRu r) 108, .blk b4 v.cs 33, .blk b3 (eKd wd (Kd.mk ka kb kt kn lo st) f) 116] ∧ ¬ (Kd.mk ka kb kt kn lo st).ut p.tabs r) (fun _ => [(3, .pointer (some ⟨b3, 0, none⟩)), (4, .pointer (some ⟨b4, 0, none⟩)), (5, .pointer (some ⟨b, 0, none⟩)), (6, .int .i64 0), (7, .int .i64 i), (8, .bool c)]) ?_ ?_
  · rcases hf with ⟨rfl, hT, -, -⟩ | ⟨rfl, hT⟩
    · all_goals (repeat' (first | refine K_seq ?_ | refine k_cond rfl ?_ | refine K_skip ?_ | refine K_exit ?_ | refine k_block ?_ | refine K_scope ?_ | refine K_label ?_ | (refine K_region (id := 16) ?_; (first | refine vl ?_ | refine fB S ?_ | refine fS S rfl rfl ?_ | refine fA ?_); (first | refine lB S rfl rfl ?_ | refine lES2 S rfl rfl ?_ | refine lEB S ?_ | refine lH S ?_); (first | refine cT ?_ | refine cF ?_ | (refine cS ?_ ?_ <;> intro hc)) <;> (refine mv ?_; (first | refine off ?_ | refine mv ?_); (first | refine off ?_ | refine vl ?_); refine vl ?_; refine mv ?_; (first | refine off ?_ | (first | refine vl ?_ | refine fB S ?_ | refine fS S rfl rfl ?_ | refine fA ?_)); (first | refine off ?_ | (first | refine lB S rfl rfl ?_ | refine lES2 S rfl rfl ?_ | refine lEB S ?_ | refine lH S ?_)); (first | refine off ?_ | (first | refine cT ?_ | refine cF ?_ | (refine cS ?_ ?_ <;> intro hc))) <;> ((first | refine off ?_ | refine mv ?_); (first | refine off ?_ | (first | refine vl ?_ | refine fB S ?_ | refine fS S rfl rfl ?_ | refine fA ?_)); (first | refine off ?_ | (first | refine lB S rfl rfl ?_ | refine lES2 S rfl rfl ?_ | refine lEB S ?_ | refine lH S ?_)); (first | refine off ?_ | (refine tS ?_ ?_ <;> intro hc)) <;> ((first | refine off ?_ | refine vl ?_); (first | refine off ?_ | refine mv ?_); (first | refine off ?_ | refine mv ?_); (first | refine off ?_ | refine vl ?_); (first | refine off ?_ | refine vl ?_); refine vl ?_; refine KO_nil ?_))))))
      all_goals exact ⟨(), ⟨S, fun q => q.elim (fun q => q.2 hT) fun q => q.2.2 hT⟩, ((by repeat (first | exact Ks.le_nil _ | refine Ks.le_cons rfl ?_ | refine Ks.le_int ?_)))⟩
    · all_goals (repeat' (first | refine K_seq ?_ | refine k_cond rfl ?_ | refine K_skip ?_ | refine K_exit ?_ | refine k_block ?_ | refine K_scope ?_ | refine K_label ?_ | (refine K_region (id := 16) ?_; (first | refine vl ?_ | refine fB S ?_ | refine fS S rfl rfl ?_ | refine fA ?_); (first | refine lB S rfl rfl ?_ | refine lES2 S rfl rfl ?_ | refine lEB S ?_ | refine lH S ?_); (first | refine cT ?_ | refine cF ?_ | (refine cS ?_ ?_ <;> intro hc)) <;> (refine mv ?_; (first | refine off ?_ | refine mv ?_); (first | refine off ?_ | refine vl ?_); refine vl ?_; refine mv ?_; (first | refine off ?_ | (first | refine vl ?_ | refine fB S ?_ | refine fS S rfl rfl ?_ | refine fA ?_)); (first | refine off ?_ | (first | refine lB S rfl rfl ?_ | refine lES2 S rfl rfl ?_ | refine lEB S ?_ | refine lH S ?_)); (first | refine off ?_ | (first | refine cT ?_ | refine cF ?_ | (refine cS ?_ ?_ <;> intro hc))) <;> ((first | refine off ?_ | refine mv ?_); (first | refine off ?_ | (first | refine vl ?_ | refine fB S ?_ | refine fS S rfl rfl ?_ | refine fA ?_)); (first | refine off ?_ | (first | refine lB S rfl rfl ?_ | refine lES2 S rfl rfl ?_ | refine lEB S ?_ | refine lH S ?_)); (first | refine off ?_ | (refine tS ?_ ?_ <;> intro hc)) <;> ((first | refine off ?_ | refine vl ?_); (first | refine off ?_ | refine mv ?_); (first | refine off ?_ | refine mv ?_); (first | refine off ?_ | refine vl ?_); (first | refine off ?_ | refine vl ?_); refine vl ?_; refine KO_nil ?_)))) | (refine K_region (id := 17) ?_; refine mv ?_; refine KO_nil ?_)))
      all_goals first | ((refine K_ret ⟨_, rfl, ?_⟩); have hut : (Kd.mk ka kb kt kn lo st).ut p.tabs r := (by first | exact .inl ⟨by assumption, hT⟩ | exact .inr ⟨by assumption, by assumption, hT⟩); exact ⟨by rw [Kd.errR ho h5, if_pos hut]; rfl, S.drop⟩) | exact ⟨(), ⟨S, fun q => by rcases q with ⟨q1, -⟩ | ⟨q1, q2, -⟩ <;> first | contradiction | (simp only at q1; omega)⟩, ((by repeat (first | exact Ks.le_nil _ | refine Ks.le_cons rfl ?_ | refine Ks.le_int ?_)))⟩
  clear S
  rintro _ h ⟨S, hut⟩
  skip
  all_goals (repeat' (first | refine K_seq ?_ | refine k_cond rfl ?_ | refine K_skip ?_ | refine K_exit ?_ | refine k_block ?_ | refine K_scope ?_ | refine K_label ?_ | (refine K_region (id := 18) ?_; refine mv ?_; refine KO_nil ?_)))
  skip
  (repeat (refine K_seq ?_)); first | refine K_joinR (σ := Unit) (fun _ h' => Hs h0 h' [.blk b (eRu r) 108, .blk b4 v.cs 33, .blk b3 (eKd wd (Kd.mk ka kb kt kn lo st) f) 116]) (fun _ => [(3, .pointer (some ⟨b3, 0, none⟩)), (4, .pointer (some ⟨b4, 0, none⟩)), (5, .pointer (some ⟨b, 0, none⟩)), (6, .int .i64 0), (7, .int .i64 i), (8, .bool c), (9, .int .i64 ((Kd.mk ka kb kt kn lo st).most p.tabs r))]) ?_ ?_ | refine K_join (σ := Unit) (fun _ h' => Hs h0 h' [.blk b (eRu r) 108, .blk b4 v.cs 33, .blk b3 (eKd wd (Kd.mk ka kb kt kn lo st) f) 116]) (fun _ => [(3, .pointer (some ⟨b3, 0, none⟩)), (4, .pointer (some ⟨b4, 0, none⟩)), (5, .pointer (some ⟨b, 0, none⟩)), (6, .int .i64 0), (7, .int .i64 i), (8, .bool c), (9, .int .i64 ((Kd.mk ka kb kt kn lo st).most p.tabs r))]) ?_ ?_
  · cases st
    · all_goals (repeat' (first | refine K_seq ?_ | refine k_cond rfl ?_ | refine K_skip ?_ | refine K_exit ?_ | refine k_block ?_ | refine K_scope ?_ | refine K_label ?_ | (refine K_region (id := 19) ?_; (first | refine vl ?_ | refine fB S ?_ | refine fS S rfl rfl ?_ | refine fA ?_); (first | refine lB S rfl rfl ?_ | refine lES2 S rfl rfl ?_ | refine lEB S ?_ | refine lH S ?_); refine KO_nil ?_)))
      exact ⟨(), S, ((by repeat (first | exact Ks.le_nil _ | refine Ks.le_cons rfl ?_ | refine Ks.le_int ?_)))⟩
    · have h116 : kt = 116 := hs rfl
      rcases hf with ⟨rfl, hT, rfl, hti⟩ | ⟨rfl, hT⟩
      · have hg := (hv.2 _ hti).1
        have ht := H.tab.tab _ hti
        have hone : (p.tabs.drop (tix p.tabs r.t)).take (tix p.tabs r.t + 1 - tix p.tabs r.t) = [tb p.tabs (tix p.tabs r.t)] := by
          rw [Nat.add_sub_cancel_left]
          unfold tb
          rw [List.getD_eq_getElem?_getD, List.getElem?_eq_getElem hti, List.drop_eq_getElem_cons hti]
          rfl
        have b1 := tsize_le (tb p.tabs (tix p.tabs r.t))
        all_goals (repeat' (first | refine K_seq ?_ | refine k_cond rfl ?_ | refine K_skip ?_ | refine K_exit ?_ | refine k_block ?_ | refine K_scope ?_ | refine K_label ?_ | (refine K_region (id := 19) ?_; (first | refine vl ?_ | refine fB S ?_ | refine fS S rfl rfl ?_ | refine fA ?_); (first | refine lB S rfl rfl ?_ | refine lES2 S rfl rfl ?_ | refine lEB S ?_ | refine lH S ?_); refine KO_nil ?_) | (refine K_region (id := 20) ?_; (first | refine vl ?_ | refine fB S ?_ | refine fS S rfl rfl ?_ | refine fA ?_); (first | refine lB S rfl rfl ?_ | refine lES2 S rfl rfl ?_ | refine lEB S ?_ | refine lH S ?_); refine mv ?_; refine mv ?_; (first | refine ad ?_ | refine vl ?_))))
        refine su (tix p.tabs r.t) (tix p.tabs r.t + 1) (hr.ext w S.ext) H.tab.cap ?_; intro vs hrs hcs; (skip)
        rw [hone] at hrs
        (refine KO_fn rfl rfl rfl rfl rfl ((countOne S.wf hrs hcs (ht.ext w S.ext) hg).mono ?_); rintro _ h ⟨rfl, x⟩) <;> (replace S := S.join0 x; clear x; (first | refine sb ?_ | refine vl ?_); refine mv ?_; refine KO_nil ?_)
        all_goals (repeat' (first | refine K_seq ?_ | refine k_cond rfl ?_ | refine K_skip ?_ | refine K_exit ?_ | refine k_block ?_ | refine K_scope ?_ | refine K_label ?_ | (refine K_region (id := 20) ?_; (first | refine vl ?_ | refine fB S ?_ | refine fS S rfl rfl ?_ | refine fA ?_); (first | refine lB S rfl rfl ?_ | refine lES2 S rfl rfl ?_ | refine lEB S ?_ | refine lH S ?_); refine mv ?_; refine mv ?_; (first | refine ad ?_ | refine vl ?_))))
        exact ⟨(), S, ((by repeat (first | exact Ks.le_nil _ | refine Ks.le_cons rfl ?_ | refine Ks.le_int ?_)))⟩
      · exact absurd (.inl ⟨h116, hT⟩) hut
  clear S
  rintro _ h S
  skip
  cases kn
  · all_goals (repeat' (first | refine K_seq ?_ | refine k_cond rfl ?_ | refine K_skip ?_ | refine K_exit ?_ | refine k_block ?_ | refine K_scope ?_ | refine K_label ?_ | (refine K_region (id := 21) ?_; (first | refine vl ?_ | refine fB S ?_ | refine fS S rfl rfl ?_ | refine fA ?_); (first | refine lB S rfl rfl ?_ | refine lES2 S rfl rfl ?_ | refine lEB S ?_ | refine lH S ?_); refine mv ?_; (first | refine off ?_ | (first | refine vl ?_ | refine fB S ?_ | refine fS S rfl rfl ?_ | refine fA ?_)); (first | refine off ?_ | (first | refine lB S rfl rfl ?_ | refine lES2 S rfl rfl ?_ | refine lEB S ?_ | refine lH S ?_)); (first | refine off ?_ | (first | refine vl ?_ | refine fB S ?_ | refine fS S rfl rfl ?_ | refine fA ?_)); (first | refine off ?_ | (first | refine lB S rfl rfl ?_ | refine lES2 S rfl rfl ?_ | refine lEB S ?_ | refine lH S ?_)); (first | refine off ?_ | (first | refine cT ?_ | refine cF ?_ | (refine cS ?_ ?_ <;> intro hc))) <;> ((first | refine off ?_ | refine mv ?_); (first | refine off ?_ | (first | refine vl ?_ | refine fB S ?_ | refine fS S rfl rfl ?_ | refine fA ?_)); (first | refine off ?_ | (first | refine lB S rfl rfl ?_ | refine lES2 S rfl rfl ?_ | refine lEB S ?_ | refine lH S ?_)); (first | refine off ?_ | refine mv ?_); (first | refine off ?_ | (first | refine cT ?_ | refine cF ?_ | (refine cS ?_ ?_ <;> intro hc))) <;> ((first | refine off ?_ | refine vl ?_); refine vl ?_; refine KO_nil ?_))) | (refine K_region (id := 22) ?_; refine mv ?_; refine KO_nil ?_) | (refine K_region (id := 23) ?_; refine mv ?_; refine KO_nil ?_)))
    refine K_ret ⟨_, rfl, ?_⟩
    exact ⟨by rw [Kd.errR ho h5, if_neg hut, if_neg (fun q => by cases q.1)]; rfl, S.drop⟩
  · all_goals (repeat' (first | refine K_seq ?_ | refine k_cond rfl ?_ | refine K_skip ?_ | refine K_exit ?_ | refine k_block ?_ | refine K_scope ?_ | refine K_label ?_ | (refine K_region (id := 21) ?_; (first | refine vl ?_ | refine fB S ?_ | refine fS S rfl rfl ?_ | refine fA ?_); (first | refine lB S rfl rfl ?_ | refine lES2 S rfl rfl ?_ | refine lEB S ?_ | refine lH S ?_); refine mv ?_; (first | refine off ?_ | (first | refine vl ?_ | refine fB S ?_ | refine fS S rfl rfl ?_ | refine fA ?_)); (first | refine off ?_ | (first | refine lB S rfl rfl ?_ | refine lES2 S rfl rfl ?_ | refine lEB S ?_ | refine lH S ?_)); (first | refine off ?_ | (first | refine vl ?_ | refine fB S ?_ | refine fS S rfl rfl ?_ | refine fA ?_)); (first | refine off ?_ | (first | refine lB S rfl rfl ?_ | refine lES2 S rfl rfl ?_ | refine lEB S ?_ | refine lH S ?_)); (first | refine off ?_ | (first | refine cT ?_ | refine cF ?_ | (refine cS ?_ ?_ <;> intro hc))) <;> ((first | refine off ?_ | refine mv ?_); (first | refine off ?_ | (first | refine vl ?_ | refine fB S ?_ | refine fS S rfl rfl ?_ | refine fA ?_)); (first | refine off ?_ | (first | refine lB S rfl rfl ?_ | refine lES2 S rfl rfl ?_ | refine lEB S ?_ | refine lH S ?_)); (first | refine off ?_ | refine mv ?_); (first | refine off ?_ | (first | refine cT ?_ | refine cF ?_ | (refine cS ?_ ?_ <;> intro hc))) <;> ((first | refine off ?_ | refine vl ?_); refine vl ?_; refine KO_nil ?_))) | (refine K_region (id := 22) ?_; refine mv ?_; refine KO_nil ?_) | (refine K_region (id := 23) ?_; refine mv ?_; refine KO_nil ?_)))
    · refine K_ret ⟨_, rfl, ?_⟩
      exact ⟨by rw [Kd.errR ho h5, if_neg hut, if_pos ⟨rfl, .inl hc⟩]; rfl, S.drop⟩
    · refine K_ret ⟨_, rfl, ?_⟩
      exact ⟨by rw [Kd.errR ho h5, if_neg hut, if_pos ⟨rfl, .inr hc⟩]; rfl, S.drop⟩
    · refine K_ret ⟨_, rfl, ?_⟩
      exact ⟨by rw [Kd.errR ho h5, if_neg hut, if_neg (fun q => q.2.elim (fun q => by contradiction) fun q => by contradiction)]; rfl, S.drop⟩
end Go.Proofs.Xx

/-
  The table of the kinds of rules.
-/
namespace Go.Proofs.Xx
set_option linter.unusedSectionVars false
open Go Go.Proofs
set_option linter.unusedSimpArgs false
set_option linter.unusedVariables false
set_option maxRecDepth 100000
set_option maxHeartbeats 4000000

/-- A map that is known, entry by entry. -/
def mkP (b : Nat) (es : List (Value × Value × Nat)) (c : Nat) (h : AH) (fp : Fp) : Prop := h.get b = some (.map es c) ∧ fp b
abbrev mkR (b : Nat) (es : List (Value × Value × Nat)) (c : Nat) : Rs := .any (mkP b es c)
def mvO (r : Option (Nat × Value)) (z : Value) : Value := match r with | some q => q.2 | none => z
section
variable {P : Program} {X : Extern} {sz : Nat} {L : Ks} {h h0 : AH} {rs : List Rs} {ops : Array Oper} {os : List Oper} {o : Oper} {R : Ks → AH → Prop}
theorem mkm2 {ty : TypeId} {d : Tmp} (S : Hs h0 h rs) (w : ∀ b h', Hs h0 h' (mkR b [] 0 :: rs) → KO P X sz ops os (L.put d (.map (some b))) h' R) (ho : o.op = .makeMap ty none := by exact rfl) (hg : guardA ops L.tree o.guard = some true := by exact rfl) (hdst : o.dst = some d := by exact rfl) (hds : Nat.blt d sz = true := by exact rfl) : KO P X sz ops (o :: os) L h R :=
  KO_val hg (v := .map (some h.next)) (h' := h.add (.map [] 0)) (by rw [ho]; rfl) (show putK sz L o.dst _ = some (L.put d _) by simp only [putK, hdst, hds]) (w _ _ (S.grow (fp := fun b => b = h.next) ((Ext.refl S.wf).add _) (fun h' q => ⟨by rw [q _ rfl, AH.get_add, if_pos rfl], rfl⟩) fun b hb => by subst hb; exact ⟨Nat.le_refl _, Nat.lt_succ_self _⟩))
theorem ins {b c : Nat} {es es2 : List (Value × Value × Nat)} {m k x : Operand} {ty et : TypeId} {kv xv : Value} {kd : TypeDesc} {L' : Ks} (S : Hs h0 h (mkR b es c :: rs)) (w : ∀ h', Hs h0 h' (mkR b es2 (c + 1) :: rs) → KO P X sz ops os L' h' R)
    (ho : o.op = .insert ty m k x := by exact rfl) (hg : guardA ops L.tree o.guard = some true := by exact rfl) (hm : kA L m = some (.map (some b)) := by exact rfl) (hk : kA L k = some kv := by exact rfl) (hx : kA L x = some xv := by exact rfl)
    (hT : mapT P ty kv = some (kd, et) := by exact rfl) (hf : aFind kd kv es 0 = some none := by exact rfl) (he : es ++ [(kv, xv, c)] = es2 := by exact rfl) (hp : putK sz L o.dst (.tuple #[]) = some L' := by exact rfl) : KO P X sz ops (o :: os) L h R := by
  obtain ⟨fp, k1, k2⟩ := At.here.ok S.sep
  obtain ⟨g1, g2⟩ := k1 h fun _ _ => rfl
  have g3 := fun j (hj : fp j) => k2 j hj
  have e : aMapUpdate P ty (.map (some b)) kv xv h = some (h.put b (.map es2 (c + 1))) := by
    unfold aMapUpdate
    simp only [hT, g1, hf, he]
  refine KO_skip hg (h' := h.put b (.map es2 (c + 1))) ?_ hp (w _ ?_)
  · rw [ho]; simp only [aOp, tree_le hm, tree_le hk, tree_le hx, e]
  · refine S.turn .here (Nat.le_refl _) (S.wf.put (g3 b g2).2.1 _) fun fq q1 q2 => ?_
    obtain ⟨g4, g5⟩ := q1 h fun _ _ => rfl
    exact ⟨fun j _ hj => by rw [AH.get_put, if_neg]; intro q; subst q; exact hj g5, fq, fun h' q => ⟨by rw [q b g5, AH.get_put, if_pos rfl], g5⟩, fun j hj => ⟨(q2 j hj).2, .inl hj⟩⟩
theorem lookK {b c : Nat} {es : List (Value × Value × Nat)} {ty et : TypeId} {kv z : Value} {kd : TypeDesc} {r : Option (Nat × Value)} (S : Hs h0 h rs) (a : At rs (mkR b es c)) (hT : mapT P ty kv = some (kd, et)) (hf : aFind kd kv es 0 = some r) (hz : zeroV P et = some z) :
    aLookup P ty (.map (some b)) kv false h = some (mvO r z) := by
  obtain ⟨fp, ⟨g1, g2⟩⟩ := S.anyP a
  unfold aLookup aMapOf
  simp only [hT, g1, hf, hz]
  cases r <;> rfl
theorem lkK {b c : Nat} {es : List (Value × Value × Nat)} {m k : Operand} {ty et : TypeId} {kv z v : Value} {kd : TypeDesc} {r : Option (Nat × Value)} {L' : Ks} (S : Hs h0 h rs) (a : At rs (mkR b es c)) (hf : aFind kd kv es 0 = some r) (hv : mvO r z = v) (w : KO P X sz ops os L' h R)
    (ho : o.op = .lookup ty m k false := by exact rfl) (hg : guardA ops L.tree o.guard = some true := by exact rfl) (hm : kA L m = some (.map (some b)) := by exact rfl) (hk : kA L k = some kv := by exact rfl) (hT : mapT P ty kv = some (kd, et) := by exact rfl) (hz : zeroV P et = some z := by exact rfl) (hp : putK sz L o.dst v = some L' := by exact rfl) : KO P X sz ops (o :: os) L h R := by
  have e := lookK S a hT hf hz
  rw [hv] at e
  refine KO_val hg (v := v) (h' := h) ?_ hp w
  rw [ho]; simp only [aOp, tree_le hm, tree_le hk, e, nextOf]
end
def kwL : List (List UInt8) := [[97, 112, 97, 114, 116], [98, 101, 115, 105, 100, 101], [97, 99, 114, 111, 115, 115], [110, 101, 97, 114], [116, 111, 103, 101, 116, 104, 101, 114], [97, 116], [115, 101, 97, 116], [97, 108, 116, 101, 114, 110, 97, 116, 101], [104, 111, 115, 116], [114, 101, 97, 99, 104], [115, 112, 101, 97, 107], [112, 101, 97, 99, 101], [99, 111, 109, 112, 97, 110, 121], [104, 111, 110, 111, 117, 114], [102, 105, 108, 108], [108, 105, 109, 105, 116], [107, 105, 116, 99, 104, 101, 110], [109, 105, 120]]
def kfL : List Value := [fnV 96, fnV 97, fnV 98, fnV 99, fnV 100, fnV 101, fnV 102, fnV 103, fnV 104, fnV 105, fnV 106, fnV 107, fnV 108, fnV 109, fnV 110, fnV 111, fnV 112, fnV 113]
def kEs : List (Value × Value × Nat) := (List.range 18).map fun i => (.int .u8 ((i + 1 : Nat) : Int), kdV (kwL.getD i []) (kdL.getD i default) (kfL.getD i .nilFunc), i)
theorem kinds_ok {h0 : AH} (w : WfH h0) : Fn Tryz.prog Xh 62 [] h0 (fun u h' => ∃ b, u = .map (some b) ∧ Hs h0 h' [mkR b kEs 18]) := by
  have S := Hs.start w
  refine Fn_K (by first | rfl | exact KX.no _ _ _ (by decide) rfl) Tryz.func62 rfl rfl ?_
  all_goals (repeat' (first | refine K_seq ?_ | refine k_cond rfl ?_ | refine K_skip ?_ | refine K_exit ?_ | refine k_block ?_ | refine K_scope ?_ | refine K_label ?_ | (refine K_region (id := 0) ?_; refine mv ?_; refine KO_nil ?_)))
  (repeat (refine K_seq ?_)); refine K_region (id := 1) ?_
  refine mkm2 S ?_; clear S; intro b h S
  refine vl ?_
  refine ins (es2 := kEs.take 1) S ?_; clear S; intro h S
  refine vl ?_
  refine ins (es2 := kEs.take 2) S ?_; clear S; intro h S
  refine vl ?_
  refine ins (es2 := kEs.take 3) S ?_; clear S; intro h S
  refine vl ?_
  refine ins (es2 := kEs.take 4) S ?_; clear S; intro h S
  refine vl ?_
  refine ins (es2 := kEs.take 5) S ?_; clear S; intro h S
  refine vl ?_
  refine ins (es2 := kEs.take 6) S ?_; clear S; intro h S
  refine vl ?_
  refine ins (es2 := kEs.take 7) S ?_; clear S; intro h S
  refine vl ?_
  refine ins (es2 := kEs.take 8) S ?_; clear S; intro h S
  refine vl ?_
  refine ins (es2 := kEs.take 9) S ?_; clear S; intro h S
  refine vl ?_
  refine ins (es2 := kEs.take 10) S ?_; clear S; intro h S
  refine vl ?_
  refine ins (es2 := kEs.take 11) S ?_; clear S; intro h S
  refine vl ?_
  refine ins (es2 := kEs.take 12) S ?_; clear S; intro h S
  refine vl ?_
  refine ins (es2 := kEs.take 13) S ?_; clear S; intro h S
  refine vl ?_
  refine ins (es2 := kEs.take 14) S ?_; clear S; intro h S
  refine vl ?_
  refine ins (es2 := kEs.take 15) S ?_; clear S; intro h S
  refine vl ?_
  refine ins (es2 := kEs.take 16) S ?_; clear S; intro h S
  refine vl ?_
  refine ins (es2 := kEs.take 17) S ?_; clear S; intro h S
  refine vl ?_
  refine ins (es2 := kEs.take 18) S ?_; clear S; intro h S
  refine mv ?_; refine mv ?_; refine KO_nil ?_
  all_goals (repeat' (first | refine K_seq ?_ | refine k_cond rfl ?_ | refine K_skip ?_ | refine K_exit ?_ | refine k_block ?_ | refine K_scope ?_ | refine K_label ?_ | (refine K_region (id := 0) ?_; refine mv ?_; refine KO_nil ?_) | (refine K_region (id := 1) ?_; skip)))
  refine K_ret ⟨_, rfl, ?_⟩
  exact ⟨b, rfl, S⟩
/-- What is found for a number. -/
def kdVal (k : Int) : Value := if 1 ≤ k ∧ k ≤ 18 then kdV (kwL.getD (k.toNat - 1) []) (kdOf k) (kfL.getD (k.toNat - 1) .nilFunc) else kdV [] ⟨0, false, 0, false, 0, false⟩ .nilFunc
end Go.Proofs.Xx

/-
  A roll is checked.
-/
namespace Go.Proofs.Xx
open Go Go.Proofs
set_option linter.unusedSimpArgs false
set_option linter.unusedVariables false
set_option linter.unusedSectionVars false
set_option maxRecDepth 100000
set_option maxHeartbeats 4000000

variable [Flag]
theorem gcheck_ok {h0 : AH} (w : WfH h0) (v : RlV) (r : Rl) (H : RlOk h0 v r) : Fn Tryz.prog Xh 94 [v.val] h0 (fun u h' => ((u = .tuple #[.int .i64 0, .int .i64 0] ∧ VRl r) ∨ ∃ i e, u = .tuple #[.int .i64 i, .int .i64 e] ∧ Bad r i e) ∧ Hs h0 h' []) := by
  have S := Hs.start w
  unfold RlV.val
  refine Fn_K (by first | rfl | exact KX.no _ _ _ (by decide) rfl) Tryz.func94 rfl rfl ?_
  all_goals (repeat' (first | refine K_seq ?_ | refine k_cond rfl ?_ | refine K_skip ?_ | refine K_exit ?_ | refine k_block ?_ | refine K_scope ?_ | refine K_label ?_ | (refine K_region (id := 0) ?_; (refine bx S ?_; clear S; intro b h S); refine mv ?_; refine mv ?_; refine KO_nil ?_) | (refine K_region (id := 1) ?_; (first | refine lB S rfl rfl ?_ | refine lES2 S rfl rfl ?_ | refine lEB S ?_ | refine lH S ?_))))
  (refine KO_fn rfl rfl rfl rfl rfl ((load_ok S.wf v r (H.ext w S.ext)).mono ?_); rintro _ h (⟨p, rfl, hv, x⟩ | ⟨i, e, rfl, hb, x⟩)) <;> (refine mv ?_; refine vl ?_; refine vl ?_; refine vl ?_; refine mv ?_; refine mv ?_; refine mv ?_; refine KO_nil ?_)
  · replace S := S.join x
    all_goals (repeat' (first | refine K_seq ?_ | refine k_cond rfl ?_ | refine K_skip ?_ | refine K_exit ?_ | refine k_block ?_ | refine K_scope ?_ | refine K_label ?_ | (refine K_region (id := 2) ?_; refine mv ?_; refine mv ?_; refine mv ?_; refine mv ?_; refine KO_nil ?_)))
    refine K_ret ⟨_, rfl, ?_⟩
    exact ⟨.inl ⟨rfl, hv⟩, S.drop⟩
  · replace S := S.join x
    all_goals (repeat' (first | refine K_seq ?_ | refine k_cond rfl ?_ | refine K_skip ?_ | refine K_exit ?_ | refine k_block ?_ | refine K_scope ?_ | refine K_label ?_ | (refine K_region (id := 2) ?_; refine mv ?_; refine mv ?_; refine mv ?_; refine mv ?_; refine KO_nil ?_)))
    refine K_ret ⟨_, rfl, ?_⟩
    exact ⟨.inr ⟨_, _, rfl, hb⟩, S.drop⟩
end Go.Proofs.Xx

/-
  The check of a problem.
-/
namespace Go.Proofs.Xx
set_option linter.unusedSectionVars false
open Go Go.Proofs
set_option linter.unusedSimpArgs false
set_option linter.unusedVariables false
set_option maxRecDepth 100000
set_option maxHeartbeats 4000000

theorem kfind (k : Int) : aFind (.int .u8) (.int .u8 k) kEs 0 = some (if 1 ≤ k ∧ k ≤ 18 then some (k.toNat - 1, kdVal k) else none) := by
  by_cases h : 1 ≤ k ∧ k ≤ 18
  · rw [if_pos h]
    obtain ⟨h1, h2⟩ := h
    have : k = 1 ∨ k = 2 ∨ k = 3 ∨ k = 4 ∨ k = 5 ∨ k = 6 ∨ k = 7 ∨ k = 8 ∨ k = 9 ∨ k = 10 ∨ k = 11 ∨ k = 12 ∨ k = 13 ∨ k = 14 ∨ k = 15 ∨ k = 16 ∨ k = 17 ∨ k = 18 := by omega
    rcases this with rfl | rfl | rfl | rfl | rfl | rfl | rfl | rfl | rfl | rfl | rfl | rfl | rfl | rfl | rfl | rfl | rfl | rfl <;> rfl
  · rw [if_neg h]
    have e : ∀ (es : List (Value × Value × Nat)) (i : Nat), (∀ e ∈ es, ∃ j : Int, e.1 = .int .u8 j ∧ 1 ≤ j ∧ j ≤ 18) → aFind (.int .u8) (.int .u8 k) es i = some none := by
      intro es
      induction es with
      | nil => intro i _; rfl
      | cons e es ih =>
        intro i he
        obtain ⟨j, h1, h2⟩ := he e (by simp)
        have hs : Instr.sameNow (.int .u8) (.int .u8 k) e.1 = some false := by
          rw [h1]
          show some (decide (k = j)) = _
          rw [decide_eq_false (by omega)]
        unfold aFind
        rw [hs]
        exact ih _ fun x hx => he x (List.mem_cons_of_mem _ hx)
    refine e kEs 0 fun x hx => ?_
    unfold kEs at hx
    obtain ⟨i, hi, rfl⟩ := List.mem_map.1 hx
    have := List.mem_range.1 hi
    exact ⟨_, rfl, by omega, by omega⟩
theorem kdv (k : Int) : mvO (if 1 ≤ k ∧ k ≤ 18 then some (k.toNat - 1, kdVal k) else none) (kdV [] ⟨0, false, 0, false, 0, false⟩ .nilFunc) = kdVal k := by
  by_cases h : 1 ≤ k ∧ k ≤ 18
  · rw [if_pos h]; rfl
  · rw [if_neg h]; unfold kdVal mvO; rw [if_neg h]
theorem kcheckR_ok {h0 : AH} (w : WfH h0) (v : PbV) (p : Pb) (H : PbOk h0 v p) (hv : ValidL p.tabs) (r : Ru) :
    Fn Tryz.prog Xh 63 [kdVal r.k, v.val, ruV r] h0 (fun u h' => u = .int .i64 (ruE p r) ∧ Hs h0 h' []) := by
  unfold kdVal ruE
  by_cases h : 1 ≤ r.k ∧ r.k ≤ 18
  · rw [if_pos h, if_pos h]
    refine kcheck_ok w _ _ _ v p H hv r ?_ ?_
    · have : ∀ i, i < 18 → kwL.getD i [] ≠ [] := by decide
      exact this _ (by omega)
    · have : ∀ i, i < 18 → (kdL.getD i default).seat = true → (kdL.getD i default).t = 116 := by decide
      exact this _ (by omega)
  · rw [if_neg h, if_neg h]
    have S := Hs.start w
    unfold kdV eKd ruV eRu PbV.val
    refine Fn_K (by first | rfl | exact KX.no _ _ _ (by decide) rfl) Tryz.func63 rfl rfl ?_
    all_goals (repeat' (first | refine K_seq ?_ | refine k_cond rfl ?_ | refine K_skip ?_ | refine K_exit ?_ | refine k_block ?_ | refine K_scope ?_ | refine K_label ?_ | (refine K_region (id := 0) ?_; (refine bx S ?_; clear S; intro b h S); (refine bx S ?_; clear S; intro b h S); (refine bx S ?_; clear S; intro b h S); refine mv ?_; refine KO_nil ?_) | (refine K_region (id := 1) ?_; (first | refine vl ?_ | refine fB S ?_ | refine fS S rfl rfl ?_ | refine fA ?_); (first | refine lB S rfl rfl ?_ | refine lES2 S rfl rfl ?_ | refine lEB S ?_ | refine lH S ?_); (refine tS ?_ ?_ <;> intro hc) <;> (refine mv ?_; refine KO_nil ?_)) | (refine K_region (id := 2) ?_; refine mv ?_; refine KO_nil ?_)))
    · refine K_ret ⟨_, rfl, ?_⟩
      exact ⟨rfl, S.drop⟩
    · exact absurd rfl hc
def ClOk (p : Pb) : Prop := (p.cl.length = 0 ∨ p.cl.length = p.us.length) ∧ ∀ c ∈ p.cl, 0 ≤ c ∧ c < 64
theorem basis_ok {h0 : AH} (w : WfH h0) (v : PbV) (p : Pb) (H : PbOk h0 v p) : Fn Tryz.prog Xh 61 [v.val] h0 (fun u h' => ∃ i e, u = .tuple #[.int .i64 i, .int .i64 e] ∧ BasP p i e ∧ Hs h0 h' []) := by
  have S := Hs.start w
  have hr := H.rol.rg
  have hl := H.rol.len
  have hlg := H.rol.lg
  have hcr := H.cl
  have hcl := H.lc
  have hl' : v.gs.length = p.us.length := hl
  have hlg' : p.us.length ≤ 9223372036854775807 := hlg
  unfold PbV.val
  refine Fn_K (by first | rfl | exact KX.no _ _ _ (by decide) rfl) Tryz.func61 rfl rfl ?_
  all_goals (repeat' (first | refine K_seq ?_ | refine k_cond rfl ?_ | refine K_skip ?_ | refine K_exit ?_ | refine k_block ?_ | refine K_scope ?_ | refine K_label ?_ | (refine K_region (id := 0) ?_; (refine bx S ?_; clear S; intro b h S); refine mv ?_; refine mv ?_; refine KO_nil ?_) | (refine K_region (id := 1) ?_; (first | refine vl ?_ | refine fB S ?_ | refine fS S rfl rfl ?_ | refine fA ?_); (first | refine lB S rfl rfl ?_ | refine lES2 S rfl rfl ?_ | refine lEB S ?_ | refine lH S ?_))))
  (refine KO_fn rfl rfl rfl rfl rfl ((checkAll_ok S.wf v.vt.val p.tabs (H.tab.ext w S.ext)).mono ?_); rintro _ h ⟨i, e, rfl, hk, x⟩) <;> (replace S := S.join0 x; clear x; refine mv ?_; refine vl ?_; refine vl ?_; refine mv ?_; refine mv ?_; refine KO_nil ?_)
  all_goals (repeat' (first | refine K_seq ?_ | refine k_cond rfl ?_ | refine K_skip ?_ | refine K_exit ?_ | refine k_block ?_ | refine K_scope ?_ | refine K_label ?_ | (refine K_region (id := 2) ?_; refine mv ?_; (first | refine cT ?_ | refine cF ?_ | (refine cS ?_ ?_ <;> intro hc)) <;> (refine KO_nil ?_)) | (refine K_region (id := 3) ?_; refine mv ?_; refine mv ?_; refine mv ?_; refine mv ?_; refine KO_nil ?_)))
  · refine K_ret ⟨_, rfl, ?_⟩
    exact ⟨i, e, rfl, .inl ⟨hc, hk⟩, S.drop⟩
  have hv : ValidL p.tabs := hk.valid.1 (by omega)
  skip
  all_goals (repeat' (first | refine K_seq ?_ | refine k_cond rfl ?_ | refine K_skip ?_ | refine K_exit ?_ | refine k_block ?_ | refine K_scope ?_ | refine K_label ?_ | (refine K_region (id := 4) ?_; (first | refine vl ?_ | refine fB S ?_ | refine fS S rfl rfl ?_ | refine fA ?_); (first | refine lB S rfl rfl ?_ | refine lES2 S rfl rfl ?_ | refine lEB S ?_ | refine lH S ?_); (first | refine vl ?_ | refine fB S ?_ | refine fS S rfl rfl ?_ | refine fA ?_); (first | refine lB S rfl rfl ?_ | refine lES2 S rfl rfl ?_ | refine lEB S ?_ | refine lH S ?_); refine vl ?_)))
  (refine KO_fn rfl rfl rfl rfl rfl ((gcheck_ok S.wf v.rl p.rl (H.rol.ext w S.ext)).mono ?_); rintro _ h ⟨⟨rfl, hq⟩ | ⟨i2, e2, rfl, hq⟩, x⟩) <;> (replace S := S.join0 x; clear x; refine mv ?_; refine vl ?_; refine vl ?_; refine mv ?_; refine mv ?_; refine KO_nil ?_)
  rotate_left
  · all_goals (repeat' (first | refine K_seq ?_ | refine k_cond rfl ?_ | refine K_skip ?_ | refine K_exit ?_ | refine k_block ?_ | refine K_scope ?_ | refine K_label ?_ | (refine K_region (id := 5) ?_; refine mv ?_; (first | refine cT ?_ | refine cF ?_ | (refine cS ?_ ?_ <;> intro hc)) <;> (refine KO_nil ?_)) | (refine K_region (id := 6) ?_; refine mv ?_; refine mv ?_; refine mv ?_; refine mv ?_; refine KO_nil ?_)))
    · refine K_ret ⟨_, rfl, ?_⟩
      exact ⟨i2, e2, rfl, .inr (.inl ⟨hv, hq⟩), S.drop⟩
    · exact absurd (by omega) hq.1
  have ho : RO p.rl := VRl_iff.1 hq
  all_goals (repeat' (first | refine K_seq ?_ | refine k_cond rfl ?_ | refine K_skip ?_ | refine K_exit ?_ | refine k_block ?_ | refine K_scope ?_ | refine K_label ?_ | (refine K_region (id := 5) ?_; refine mv ?_; (first | refine cT ?_ | refine cF ?_ | (refine cS ?_ ?_ <;> intro hc)) <;> (refine KO_nil ?_))))
  skip
  (repeat (refine K_seq ?_)); first | refine K_joinR (σ := Unit) (fun _ h' => Hs h0 h' [.blk b v.cs 33] ∧ (p.cl.length = 0 ∨ p.cl.length = p.us.length)) (fun _ => [(1, .pointer (some ⟨b, 0, none⟩)), (2, .int .i64 0), (3, .int .i64 0)]) ?_ ?_ | refine K_join (σ := Unit) (fun _ h' => Hs h0 h' [.blk b v.cs 33] ∧ (p.cl.length = 0 ∨ p.cl.length = p.us.length)) (fun _ => [(1, .pointer (some ⟨b, 0, none⟩)), (2, .int .i64 0), (3, .int .i64 0)]) ?_ ?_
  · have hl2 : v.rl.gs.length = p.us.length := hl
    all_goals (repeat' (first | refine K_seq ?_ | refine k_cond rfl ?_ | refine K_skip ?_ | refine K_exit ?_ | refine k_block ?_ | refine K_scope ?_ | refine K_label ?_ | (refine K_region (id := 7) ?_; (first | refine vl ?_ | refine fB S ?_ | refine fS S rfl rfl ?_ | refine fA ?_); (first | refine lB S rfl rfl ?_ | refine lES2 S rfl rfl ?_ | refine lEB S ?_ | refine lH S ?_); (first | refine lnB S ?_ | refine lnS S rfl rfl ?_); (first | refine cT ?_ | refine cF ?_ | (refine cS ?_ ?_ <;> intro hc)) <;> (refine mv ?_; (first | refine off ?_ | (first | refine vl ?_ | refine fB S ?_ | refine fS S rfl rfl ?_ | refine fA ?_)); (first | refine off ?_ | (first | refine lB S rfl rfl ?_ | refine lES2 S rfl rfl ?_ | refine lEB S ?_ | refine lH S ?_)); (first | refine off ?_ | (first | refine lnB S ?_ | refine lnS S rfl rfl ?_)); (first | refine off ?_ | (first | refine vl ?_ | refine fB S ?_ | refine fS S rfl rfl ?_ | refine fA ?_)); (first | refine off ?_ | (first | refine lB S rfl rfl ?_ | refine lES2 S rfl rfl ?_ | refine lEB S ?_ | refine lH S ?_)); (first | refine off ?_ | (first | refine lnB S ?_ | refine lnS S rfl rfl ?_)); (first | refine off ?_ | (first | refine cT ?_ | refine cF ?_ | (refine cS ?_ ?_ <;> intro hc))) <;> (refine vl ?_; refine KO_nil ?_))) | (refine K_region (id := 8) ?_; refine mv ?_; refine mv ?_; refine KO_nil ?_)))
    · refine K_ret ⟨_, rfl, ?_⟩
      exact ⟨0, 44, rfl, .inr (.inr ⟨hv, ho, .inl ⟨fun q => by have := q.1; omega, rfl, rfl⟩⟩), S.drop⟩
    · exact ⟨(), ⟨S, by omega⟩, ((by repeat (first | exact Ks.le_nil _ | refine Ks.le_cons rfl ?_ | refine Ks.le_int ?_)))⟩
    · exact ⟨(), ⟨S, by omega⟩, ((by repeat (first | exact Ks.le_nil _ | refine Ks.le_cons rfl ?_ | refine Ks.le_int ?_)))⟩
  clear S
  rintro _ h ⟨S, h1⟩
  skip
  all_goals (repeat' (first | refine K_seq ?_ | refine k_cond rfl ?_ | refine K_skip ?_ | refine K_exit ?_ | refine k_block ?_ | refine K_scope ?_ | refine K_label ?_ | (refine K_region (id := 9) ?_; (first | refine vl ?_ | refine fB S ?_ | refine fS S rfl rfl ?_ | refine fA ?_); (first | refine lB S rfl rfl ?_ | refine lES2 S rfl rfl ?_ | refine lEB S ?_ | refine lH S ?_); (first | refine lnB S ?_ | refine lnS S rfl rfl ?_); refine mv ?_; refine KO_nil ?_)))
  refine k_loop (σ := Nat) (fun i h' => Hs h0 h' [.blk b v.cs 33] ∧ i ≤ p.cl.length ∧ ∀ j, j < i → 0 ≤ p.cl.getD j default ∧ p.cl.getD j default < 64) (fun i => p.cl.length - i) (fun i => [(1, .pointer (some ⟨b, 0, none⟩)), (2, .int .i64 0), (3, .int .i64 0), (47, v.vc.val), (48, .int .i64 p.cl.length), (49, .int .i64 i)]) 0 (by repeat (first | exact Ks.le_nil _ | refine Ks.le_cons rfl ?_ | refine Ks.le_int ?_)) ?_ ?_
  · exact ⟨S, Nat.zero_le _, fun j hj => absurd hj (Nat.not_lt_zero _)⟩
  clear S
  rintro i h ⟨S, k1, k2⟩
  all_goals (repeat' (first | refine K_seq ?_ | refine k_cond rfl ?_ | refine K_skip ?_ | refine K_exit ?_ | refine k_block ?_ | refine K_scope ?_ | refine K_label ?_ | (refine K_region (id := 10) ?_; (first | refine cT ?_ | refine cF ?_ | (refine cS ?_ ?_ <;> intro hc)) <;> (refine KO_nil ?_)) | (refine K_region (id := 11) ?_; (first | refine ixB S ?_ | refine ixS2 S rfl rfl ?_); (first | refine lB S rfl rfl ?_ | refine lES2 S rfl rfl ?_ | refine lEB S ?_ | refine lH S ?_); refine mv ?_; refine KO_nil ?_) | (refine K_region (id := 12) ?_; refine mv ?_; (first | refine cT ?_ | refine cF ?_ | (refine cS ?_ ?_ <;> intro hc)) <;> (refine mv ?_; (first | refine off ?_ | refine mv ?_); (first | refine off ?_ | (first | refine cT ?_ | refine cF ?_ | (refine cS ?_ ?_ <;> intro hc))) <;> (refine vl ?_; refine KO_nil ?_))) | (refine K_region (id := 13) ?_; refine mv ?_; refine mv ?_; refine KO_nil ?_) | (refine K_region (id := 14) ?_; (first | refine ad ?_ | refine vl ?_); refine mv ?_; refine KO_nil ?_)))
  · refine K_ret ⟨_, rfl, ?_⟩
    exact ⟨0, 44, rfl, .inr (.inr ⟨hv, ho, .inl ⟨fun q => by have := (q.2 _ (mem_getD (show i < p.cl.length by omega))).1; simp only [Int.toNat_natCast] at hc; omega, rfl, rfl⟩⟩), S.drop⟩
  · refine K_ret ⟨_, rfl, ?_⟩
    exact ⟨0, 44, rfl, .inr (.inr ⟨hv, ho, .inl ⟨fun q => by have := (q.2 _ (mem_getD (show i < p.cl.length by omega))).2; simp only [Int.toNat_natCast] at hc; omega, rfl, rfl⟩⟩), S.drop⟩
  · (try simp only [Int.toNat_natCast] at *)
    refine ⟨i + 1, ?_, ?_, (by repeat (first | exact Ks.le_nil _ | refine Ks.le_cons rfl ?_ | refine Ks.le_int ?_))⟩
    · show p.cl.length - (i + 1) < p.cl.length - i; omega
    · exact ⟨S, by omega, nxtD k2 ⟨by omega, by omega⟩⟩
  have hco : (p.cl.length = 0 ∨ p.cl.length = p.us.length) ∧ ∀ c ∈ p.cl, 0 ≤ c ∧ c < 64 := ⟨h1, fun c hc2 => by
    obtain ⟨j, hj, rfl⟩ := mem_iff_getD.1 hc2
    exact k2 j (by omega)⟩
  have hs := sumT_le p.tabs p.tabs.length
  have htl := H.tab.len
  skip
  have hcv : countV p.tabs = sumT p.tabs p.tabs.length := by unfold countV; rw [if_pos hv]
  have hl2 : v.rl.gs.length = p.us.length := hl
  (repeat (refine K_seq ?_)); refine K_drawX (id := 15) [(1, (0, 1))] [some (b)] ?_; refine KX_cons ?_; (first | (refine vl ?_ <;> refine KO_nil ⟨⟨by (first | exact True.intro | exact Or.inl rfl | exact Or.inr rfl | exact Or.inr (congrArg some (blkOf_elA _ _ _ _)) | exact ⟨Or.inl rfl, rfl⟩ | exact ⟨Or.inr rfl, rfl⟩), rfl⟩, ?_⟩) | (refine fB S ?_ <;> refine KO_nil ⟨⟨by (first | exact True.intro | exact Or.inl rfl | exact Or.inr rfl | exact Or.inr (congrArg some (blkOf_elA _ _ _ _)) | exact ⟨Or.inl rfl, rfl⟩ | exact ⟨Or.inr rfl, rfl⟩), rfl⟩, ?_⟩) | (refine fS S rfl rfl ?_ <;> refine KO_nil ⟨⟨by (first | exact True.intro | exact Or.inl rfl | exact Or.inr rfl | exact Or.inr (congrArg some (blkOf_elA _ _ _ _)) | exact ⟨Or.inl rfl, rfl⟩ | exact ⟨Or.inr rfl, rfl⟩), rfl⟩, ?_⟩) | (refine fA ?_ <;> refine KO_nil ⟨⟨by (first | exact True.intro | exact Or.inl rfl | exact Or.inr rfl | exact Or.inr (congrArg some (blkOf_elA _ _ _ _)) | exact ⟨Or.inl rfl, rfl⟩ | exact ⟨Or.inr rfl, rfl⟩), rfl⟩, ?_⟩)); refine KX_cons ?_; (first | (refine lB S rfl rfl ?_ <;> refine KO_nil ⟨⟨by (first | exact True.intro | exact Or.inl rfl | exact Or.inr rfl | exact Or.inr (congrArg some (blkOf_elA _ _ _ _)) | exact ⟨Or.inl rfl, rfl⟩ | exact ⟨Or.inr rfl, rfl⟩), rfl⟩, ?_⟩) | (refine lES2 S rfl rfl ?_ <;> refine KO_nil ⟨⟨by (first | exact True.intro | exact Or.inl rfl | exact Or.inr rfl | exact Or.inr (congrArg some (blkOf_elA _ _ _ _)) | exact ⟨Or.inl rfl, rfl⟩ | exact ⟨Or.inr rfl, rfl⟩), rfl⟩, ?_⟩) | (refine lEB S ?_ <;> refine KO_nil ⟨⟨by (first | exact True.intro | exact Or.inl rfl | exact Or.inr rfl | exact Or.inr (congrArg some (blkOf_elA _ _ _ _)) | exact ⟨Or.inl rfl, rfl⟩ | exact ⟨Or.inr rfl, rfl⟩), rfl⟩, ?_⟩) | (refine lH S ?_ <;> refine KO_nil ⟨⟨by (first | exact True.intro | exact Or.inl rfl | exact Or.inr rfl | exact Or.inr (congrArg some (blkOf_elA _ _ _ _)) | exact ⟨Or.inl rfl, rfl⟩ | exact ⟨Or.inr rfl, rfl⟩), rfl⟩, ?_⟩)); refine KX_cons ?_; (first | (refine lnB S ?_ <;> refine KO_nil ⟨⟨by (first | exact True.intro | exact Or.inl rfl | exact Or.inr rfl | exact Or.inr (congrArg some (blkOf_elA _ _ _ _)) | exact ⟨Or.inl rfl, rfl⟩ | exact ⟨Or.inr rfl, rfl⟩), rfl⟩, ?_⟩) | (refine lnS S rfl rfl ?_ <;> refine KO_nil ⟨⟨by (first | exact True.intro | exact Or.inl rfl | exact Or.inr rfl | exact Or.inr (congrArg some (blkOf_elA _ _ _ _)) | exact ⟨Or.inl rfl, rfl⟩ | exact ⟨Or.inr rfl, rfl⟩), rfl⟩, ?_⟩)); refine KX_cons ?_; (first | (refine vl ?_ <;> refine KO_nil ⟨⟨by (first | exact True.intro | exact Or.inl rfl | exact Or.inr rfl | exact Or.inr (congrArg some (blkOf_elA _ _ _ _)) | exact ⟨Or.inl rfl, rfl⟩ | exact ⟨Or.inr rfl, rfl⟩), rfl⟩, ?_⟩) | (refine fB S ?_ <;> refine KO_nil ⟨⟨by (first | exact True.intro | exact Or.inl rfl | exact Or.inr rfl | exact Or.inr (congrArg some (blkOf_elA _ _ _ _)) | exact ⟨Or.inl rfl, rfl⟩ | exact ⟨Or.inr rfl, rfl⟩), rfl⟩, ?_⟩) | (refine fS S rfl rfl ?_ <;> refine KO_nil ⟨⟨by (first | exact True.intro | exact Or.inl rfl | exact Or.inr rfl | exact Or.inr (congrArg some (blkOf_elA _ _ _ _)) | exact ⟨Or.inl rfl, rfl⟩ | exact ⟨Or.inr rfl, rfl⟩), rfl⟩, ?_⟩) | (refine fA ?_ <;> refine KO_nil ⟨⟨by (first | exact True.intro | exact Or.inl rfl | exact Or.inr rfl | exact Or.inr (congrArg some (blkOf_elA _ _ _ _)) | exact ⟨Or.inl rfl, rfl⟩ | exact ⟨Or.inr rfl, rfl⟩), rfl⟩, ?_⟩)); refine KX_cons ?_; (first | (refine lB S rfl rfl ?_ <;> refine KO_nil ⟨⟨by (first | exact True.intro | exact Or.inl rfl | exact Or.inr rfl | exact Or.inr (congrArg some (blkOf_elA _ _ _ _)) | exact ⟨Or.inl rfl, rfl⟩ | exact ⟨Or.inr rfl, rfl⟩), rfl⟩, ?_⟩) | (refine lES2 S rfl rfl ?_ <;> refine KO_nil ⟨⟨by (first | exact True.intro | exact Or.inl rfl | exact Or.inr rfl | exact Or.inr (congrArg some (blkOf_elA _ _ _ _)) | exact ⟨Or.inl rfl, rfl⟩ | exact ⟨Or.inr rfl, rfl⟩), rfl⟩, ?_⟩) | (refine lEB S ?_ <;> refine KO_nil ⟨⟨by (first | exact True.intro | exact Or.inl rfl | exact Or.inr rfl | exact Or.inr (congrArg some (blkOf_elA _ _ _ _)) | exact ⟨Or.inl rfl, rfl⟩ | exact ⟨Or.inr rfl, rfl⟩), rfl⟩, ?_⟩) | (refine lH S ?_ <;> refine KO_nil ⟨⟨by (first | exact True.intro | exact Or.inl rfl | exact Or.inr rfl | exact Or.inr (congrArg some (blkOf_elA _ _ _ _)) | exact ⟨Or.inl rfl, rfl⟩ | exact ⟨Or.inr rfl, rfl⟩), rfl⟩, ?_⟩))
  ((refine KX_cons ?_; first | refine KO_fn rfl rfl rfl rfl rfl ((count_ok S.wf v.vt.val p.tabs (H.tab.ext w S.ext)).mono ?_)); rintro _ h ⟨rfl, x⟩) <;> ((refine KO_nil ⟨⟨True.intro, ?_⟩, ?_⟩; (focus ((show keepsX _ _ _ _ _; simp only [keepsX]; (repeat' (first | exact True.intro | refine And.intro ?_ ?_)); all_goals (intro hw; first | exact True.intro | exact rfl | exact absurd hw (by decide +kernel) | exact x.ext.old _ S.bB | exact x.ext.old _ (S.bR (by first | omega | grind)) | exact x.ext.old _ (S.bX (by assumption) (by assumption) (by first | omega | grind)) | exact x.ext.old _ (S.bY (by assumption) (by assumption)) | (refine x.ext.old _ ?_; assumption) | exact absurd hw (by decide +kernel)))))); replace S := S.join0 x; clear x; refine KX_cons ?_; (first | (refine cT ?_ <;> refine KO_nil ⟨⟨by (first | exact True.intro | exact Or.inl rfl | exact Or.inr rfl | exact Or.inr (congrArg some (blkOf_elA _ _ _ _)) | exact ⟨Or.inl rfl, rfl⟩ | exact ⟨Or.inr rfl, rfl⟩), rfl⟩, ?_⟩) | (refine cF ?_ <;> refine KO_nil ⟨⟨by (first | exact True.intro | exact Or.inl rfl | exact Or.inr rfl | exact Or.inr (congrArg some (blkOf_elA _ _ _ _)) | exact ⟨Or.inl rfl, rfl⟩ | exact ⟨Or.inr rfl, rfl⟩), rfl⟩, ?_⟩) | ((refine cS ?_ ?_ <;> intro hc) <;> refine KO_nil ⟨⟨by (first | exact True.intro | exact Or.inl rfl | exact Or.inr rfl | exact Or.inr (congrArg some (blkOf_elA _ _ _ _)) | exact ⟨Or.inl rfl, rfl⟩ | exact ⟨Or.inr rfl, rfl⟩), rfl⟩, ?_⟩)) <;> (refine KX_nil ?_))
  all_goals (all_goals (repeat' (first | refine K_seq ?_ | refine k_cond rfl ?_ | refine K_skip ?_ | refine K_exit ?_ | refine k_block ?_ | refine K_scope ?_ | refine K_label ?_ | (refine K_region (id := 16) ?_; refine mv ?_; refine mv ?_; refine KO_nil ?_))))
  · refine K_ret ⟨_, rfl, ?_⟩
    exact ⟨0, 45, rfl, .inr (.inr ⟨hv, ho, .inr ⟨hco, .inl ⟨by rw [hcv] at hc; omega, rfl, rfl⟩⟩⟩), S.drop⟩
  · all_goals (repeat' (first | refine K_seq ?_ | refine k_cond rfl ?_ | refine K_skip ?_ | refine K_exit ?_ | refine k_block ?_ | refine K_scope ?_ | refine K_label ?_ | (refine K_region (id := 17) ?_; refine mv ?_; refine mv ?_; refine KO_nil ?_)))
    refine K_ret ⟨_, rfl, ?_⟩
    exact ⟨0, 0, rfl, .inr (.inr ⟨hv, ho, .inr ⟨hco, .inr ⟨by rw [hcv] at hc; omega, rfl, rfl⟩⟩⟩), S.drop⟩
theorem rcheckP_ok {h0 : AH} (w : WfH h0) (v : PbV) (p : Pb) (H : PbOk h0 v p) : Fn Tryz.prog Xh 33 [v.val] h0 (fun u h' => ∃ i e, u = .tuple #[.int .i64 i, .int .i64 e] ∧ CkP p i e ∧ Hs h0 h' []) := by
  have S := Hs.start w
  have hr := H.ru
  have hlr := H.lr
  unfold PbV.val
  refine Fn_K (by first | rfl | exact KX.no _ _ _ (by decide) rfl) Tryz.func33 rfl rfl ?_
  all_goals (repeat' (first | refine K_seq ?_ | refine k_cond rfl ?_ | refine K_skip ?_ | refine K_exit ?_ | refine k_block ?_ | refine K_scope ?_ | refine K_label ?_ | (refine K_region (id := 0) ?_; (refine bx S ?_; clear S; intro b h S); refine mv ?_; refine mv ?_; refine KO_nil ?_) | (refine K_region (id := 1) ?_; (first | refine lB S rfl rfl ?_ | refine lES2 S rfl rfl ?_ | refine lEB S ?_ | refine lH S ?_))))
  obtain ⟨bp, hnm⟩ : ∃ x, x = b := ⟨_, rfl⟩; subst hnm
  (refine KO_fn rfl rfl rfl rfl rfl ((basis_ok S.wf v p (H.ext w S.ext)).mono ?_); rintro _ h ⟨i, e, rfl, hk, x⟩) <;> (replace S := S.join0 x; clear x; refine mv ?_; refine vl ?_; refine vl ?_; refine mv ?_; refine mv ?_; refine KO_nil ?_)
  all_goals (repeat' (first | refine K_seq ?_ | refine k_cond rfl ?_ | refine K_skip ?_ | refine K_exit ?_ | refine k_block ?_ | refine K_scope ?_ | refine K_label ?_ | (refine K_region (id := 2) ?_; refine mv ?_; (first | refine cT ?_ | refine cF ?_ | (refine cS ?_ ?_ <;> intro hc)) <;> (refine KO_nil ?_)) | (refine K_region (id := 3) ?_; refine mv ?_; refine mv ?_; refine mv ?_; refine mv ?_; refine KO_nil ?_)))
  · refine K_ret ⟨_, rfl, ?_⟩
    exact ⟨i, e, rfl, .inl ⟨hc, hk⟩, S.drop⟩
  have he : e = 0 := by omega
  subst he
  obtain ⟨hb, rfl⟩ := hk.bo
  skip
  all_goals (repeat' (first | refine K_seq ?_ | refine k_cond rfl ?_ | refine K_skip ?_ | refine K_exit ?_ | refine k_block ?_ | refine K_scope ?_ | refine K_label ?_ | (refine K_region (id := 4) ?_; skip)))
  (refine KO_fn rfl rfl rfl rfl rfl ((kinds_ok S.wf).mono ?_); rintro _ h ⟨m, rfl, x⟩) <;> (replace S := S.join1 x; clear x; refine mv ?_; refine KO_nil ?_)
  all_goals (repeat' (first | refine K_seq ?_ | refine k_cond rfl ?_ | refine K_skip ?_ | refine K_exit ?_ | refine k_block ?_ | refine K_scope ?_ | refine K_label ?_ | (refine K_region (id := 4) ?_; skip) | (refine K_region (id := 5) ?_; (first | refine vl ?_ | refine fB S ?_ | refine fS S rfl rfl ?_ | refine fA ?_); (first | refine lB S rfl rfl ?_ | refine lES2 S rfl rfl ?_ | refine lEB S ?_ | refine lH S ?_); (first | refine lnB S ?_ | refine lnS S rfl rfl ?_); refine mv ?_; refine KO_nil ?_)))
  refine k_loop (σ := Nat) (fun i h' => Hs h0 h' [mkR m kEs 18, .blk bp v.cs 33] ∧ i ≤ p.ru.length ∧ i ≤ 64 ∧ ∀ j, j < i → ruE p (p.ru.getD j default) = 0) (fun i => p.ru.length - i) (fun i => [(1, .pointer (some ⟨bp, 0, none⟩)), (2, .int .i64 0), (3, .int .i64 0), (6, .map (some m)), (21, v.vr.val), (22, .int .i64 p.ru.length), (23, .int .i64 i)]) 0 (by repeat (first | exact Ks.le_nil _ | refine Ks.le_cons rfl ?_ | refine Ks.le_int ?_)) ?_ ?_
  · exact ⟨S, Nat.zero_le _, Nat.zero_le _, fun j hj => absurd hj (Nat.not_lt_zero _)⟩
  clear S
  rintro i h ⟨S, k1, k3, k2⟩
  all_goals (repeat' (first | refine K_seq ?_ | refine k_cond rfl ?_ | refine K_skip ?_ | refine K_exit ?_ | refine k_block ?_ | refine K_scope ?_ | refine K_label ?_ | (refine K_region (id := 6) ?_; (first | refine cT ?_ | refine cF ?_ | (refine cS ?_ ?_ <;> intro hc)) <;> (refine KO_nil ?_)) | (refine K_region (id := 7) ?_; refine mv ?_; (first | refine ixB S ?_ | refine ixS2 S rfl rfl ?_); (first | refine lB S rfl rfl ?_ | refine lES2 S rfl rfl ?_ | refine lEB S ?_ | refine lH S ?_); (refine al S ?_; clear S; intro b h S); refine mv ?_; (first | (refine sB S rfl rfl ?_; clear S; intro h S) | (refine sE2 S rfl rfl ?_; clear S; intro h S)); refine KO_nil ?_) | (refine K_region (id := 8) ?_; refine mv ?_; (first | refine vl ?_ | refine fB S ?_ | refine fS S rfl rfl ?_ | refine fA ?_); (first | refine lB S rfl rfl ?_ | refine lES2 S rfl rfl ?_ | refine lEB S ?_ | refine lH S ?_))))
  · (try simp only [Int.toNat_natCast] at *)
    have hi : i < p.ru.length := by omega
    obtain ⟨r, hre⟩ : ∃ r, p.ru.getD i default = r := ⟨_, rfl⟩
    rw [hre] at S ⊢
    replace S : Hs h0 h [.blk b (eRu r) 108, mkR m kEs 18, .blk bp v.cs 33] := S
    refine lkK (v := kdVal r.k) (z := kdV [] ⟨0, false, 0, false, 0, false⟩ .nilFunc) S (.there .here) (kfind r.k) (kdv r.k) ?_
    ((first | refine lB S rfl rfl ?_ | refine lES2 S rfl rfl ?_ | refine lEB S ?_ | refine lH S ?_); (first | refine lB S rfl rfl ?_ | refine lES2 S rfl rfl ?_ | refine lEB S ?_ | refine lH S ?_))
    (refine KO_fn rfl rfl rfl rfl rfl ((kcheckR_ok S.wf v p (H.ext w S.ext) hb.tabs r).mono ?_); rintro _ h ⟨rfl, x⟩) <;> (replace S := S.join0 x; clear x; refine mv ?_; refine KO_nil ?_)
    all_goals (repeat' (first | refine K_seq ?_ | refine k_cond rfl ?_ | refine K_skip ?_ | refine K_exit ?_ | refine k_block ?_ | refine K_scope ?_ | refine K_label ?_ | (refine K_region (id := 9) ?_; refine mv ?_; (first | refine cT ?_ | refine cF ?_ | (refine cS ?_ ?_ <;> intro hc)) <;> (refine KO_nil ?_)) | (refine K_region (id := 10) ?_; refine mv ?_; refine mv ?_; refine mv ?_; refine mv ?_; refine KO_nil ?_) | (refine K_region (id := 11) ?_; refine mv ?_; (first | refine cT ?_ | refine cF ?_ | (refine cS ?_ ?_ <;> intro hc)) <;> (refine KO_nil ?_)) | (refine K_region (id := 12) ?_; refine mv ?_; refine mv ?_; refine mv ?_; refine KO_nil ?_)))
    · refine K_ret ⟨_, rfl, ?_⟩
      exact ⟨i, _, rfl, .inr ⟨hb, .inl ⟨i, hi, rfl, k3, k2, .inl ⟨by rw [hre]; exact hc, by rw [hre]⟩⟩⟩, S.drop⟩
    · refine K_ret ⟨_, rfl, ?_⟩
      exact ⟨i, 7, rfl, .inr ⟨hb, .inl ⟨i, hi, rfl, k3, k2, .inr ⟨by rw [hre]; omega, by omega, rfl⟩⟩⟩, S.drop⟩
    · all_goals (repeat' (first | refine K_seq ?_ | refine k_cond rfl ?_ | refine K_skip ?_ | refine K_exit ?_ | refine k_block ?_ | refine K_scope ?_ | refine K_label ?_ | (refine K_region (id := 13) ?_; (first | refine ad ?_ | refine vl ?_); refine mv ?_; refine KO_nil ?_)))
      refine ⟨i + 1, ?_, ?_, (by repeat (first | exact Ks.le_nil _ | refine Ks.le_cons rfl ?_ | refine Ks.le_int ?_))⟩
      · show p.ru.length - (i + 1) < p.ru.length - i; omega
      · exact ⟨S.tail, by omega, by omega, nxtD k2 (by rw [hre]; omega)⟩
  · all_goals (repeat' (first | refine K_seq ?_ | refine k_cond rfl ?_ | refine K_skip ?_ | refine K_exit ?_ | refine k_block ?_ | refine K_scope ?_ | refine K_label ?_ | (refine K_region (id := 14) ?_; refine mv ?_; refine mv ?_; refine KO_nil ?_)))
    refine K_ret ⟨_, rfl, ?_⟩
    exact ⟨0, 0, rfl, .inr ⟨hb, .inr ⟨by omega, fun j hj => k2 j (by omega), rfl, rfl⟩⟩, S.drop⟩
end Go.Proofs.Xx

/-
  Ways and trees in a metric: plain.
-/
namespace Go.Proofs.Xx
set_option linter.unusedSectionVars false
set_option linter.unusedSimpArgs false
set_option linter.unusedVariables false

structure Met (d : Int → Int → Int) : Prop where
  nn : ∀ a b, 0 ≤ d a b
  z : ∀ a, d a a = 0
  sym : ∀ a b, d a b = d b a
  tri : ∀ a b c, d a c ≤ d a b + d b c
/-- The length of a way from a over l to b. -/
def plen (d : Int → Int → Int) : Int → List Int → Int → Int
  | a, [], b => d a b
  | a, t :: l, b => d a t + plen d t l b
theorem plen_app {d : Int → Int → Int} : ∀ (l : List Int) (a t : Int) (r : List Int) (b : Int), plen d a (l ++ t :: r) b = plen d a l t + plen d t r b
  | [], a, t, r, b => rfl
  | x :: l, a, t, r, b => by
    rw [List.cons_append, plen, plen, plen_app l x t r b]; omega
theorem plen_rev {d : Int → Int → Int} (m : Met d) : ∀ (l : List Int) (a b : Int), plen d a l b = plen d b l.reverse a
  | [], a, b => m.sym a b
  | x :: l, a, b => by
    rw [List.reverse_cons, plen_app, plen, plen, plen_rev m l x b, m.sym a x]; omega
/-- A way from the kitchen and back. -/
def tour (d : Int → Int → Int) (l : List Int) : Int := plen d (-1) l (-1)
theorem tour_rev {d : Int → Int → Int} (m : Met d) (l : List Int) : tour d l.reverse = tour d l := (plen_rev m l (-1) (-1)).symm
/-! all orders, gone through as a search does -/

/-- The orders of the stops that begin with done, n more to come. -/
def Comp (stops : List Int) : Nat → List Int → List (List Int)
  | 0, done => [done]
  | n + 1, done => stops.flatMap fun t => if t ∈ done then [] else Comp stops n (done ++ [t])
/-- The best way so far (none: a length below 0). -/
abbrev BestW := List Int × Int
def updW (L : List Int → Int) (s : BestW) (c : List Int) : BestW := if s.2 < 0 ∨ L c < s.2 then (c, L c) else s
/-! trees -/

/-- The vertices R hang on J, one after the other, with edges of weight c together. -/
inductive Cov (d : Int → Int → Int) : List Int → List Int → Int → Prop where
  | nil {J : List Int} : Cov d J [] 0
  | snoc {J R : List Int} {c x p : Int} (h : Cov d J R c) (hp : p ∈ J ∨ p ∈ R) : Cov d J (R ++ [x]) (c + d x p)
theorem Cov.mono {d : Int → Int → Int} {J J' R : List Int} {c : Int} (h : Cov d J R c) (hs : ∀ x ∈ J, x ∈ J') : Cov d J' R c := by
  induction h with
  | nil => exact .nil
  | snoc _ hp ih => exact .snoc ih (hp.imp (hs _) id)
theorem Cov.shift {d : Int → Int → Int} {J J' R : List Int} {c p v : Int} (h : Cov d (p :: J) R c) (hv : v ∈ J') (hs : ∀ x ∈ J, x ∈ J') : Cov d J' (p :: R) (c + d p v) := by
  generalize hJ : p :: J = K at h
  induction h with
  | nil =>
    have := Cov.snoc (d := d) (J := J') (R := []) (c := 0) (x := p) (p := v) .nil (.inl hv)
    simpa using this
  | @snoc R c x q h hq ih =>
    subst hJ
    have := Cov.snoc (x := x) (p := q) ih (by
      rcases hq with hq | hq
      · rcases List.mem_cons.1 hq with rfl | hq
        · exact .inr (by simp)
        · exact .inl (hs _ hq)
      · exact .inr (List.mem_cons_of_mem _ hq))
    have e : c + d p v + d x q = c + d x q + d p v := by omega
    rw [e] at this
    exact this
/-- A vertex is taken into the base: an edge of weight w at least falls away. -/
theorem Cov.exch {d : Int → Int → Int} (m : Met d) {J : List Int} {w : Int} {R : List Int} {c : Int} (h : Cov d J R c) : ∀ {v : Int}, v ∈ R → (∀ x ∈ R, ∀ y ∈ J, w ≤ d x y) → R.Nodup →
    ∃ R' c', R'.Perm (R.erase v) ∧ Cov d (v :: J) R' c' ∧ c' + w ≤ c := by
  induction h with
  | nil => intro v hv; cases hv
  | @snoc R c x p h hp ih =>
    intro v hv hw hnd
    rw [List.nodup_append] at hnd
    obtain ⟨nd, -, ndx⟩ := hnd
    have hxR : x ∉ R := fun q => ndx x q x (by simp) rfl
    have hw0 : ∀ y ∈ R, ∀ z ∈ J, w ≤ d y z := fun y hy => hw y (List.mem_append_left _ hy)
    by_cases e : v = x
    · subst e
      have eR : (R ++ [v]).erase v = R := by rw [List.erase_append_right _ hxR]; simp
      rw [eR]
      by_cases hpR : p ∈ R
      · obtain ⟨R', c', k1, k2, k3⟩ := ih hpR hw0 nd
        refine ⟨p :: R', c' + d p v, ?_, k2.shift (by simp) fun y hy => List.mem_cons_of_mem _ hy, ?_⟩
        · exact (k1.cons p).trans (List.perm_cons_erase hpR).symm
        · have := m.sym v p
          omega
      · have hpJ : p ∈ J := hp.resolve_right hpR
        have := hw v (by simp) p hpJ
        exact ⟨R, c, .refl _, h.mono fun y hy => List.mem_cons_of_mem _ hy, by omega⟩
    · have hvR : v ∈ R := by
        rcases List.mem_append.1 hv with q | q
        · exact q
        · exact absurd (List.mem_singleton.1 q) e
      obtain ⟨R', c', k1, k2, k3⟩ := ih hvR hw0 nd
      refine ⟨R' ++ [x], c' + d x p, ?_, k2.snoc ?_, by omega⟩
      · rw [List.erase_append_left _ hvR]
        exact k1.append_right [x]
      · by_cases q : p = v
        · exact .inl (by simp [q])
        · rcases hp with hp | hp
          · exact .inl (List.mem_cons_of_mem _ hp)
          · exact .inr (k1.mem_iff.2 ((List.mem_erase_of_ne q).2 hp))
/-- How a tree is grown: each time by a nearest vertex. -/
inductive Prim (d : Int → Int → Int) : List Int → List Int → Int → Prop where
  | nil {J : List Int} : Prim d J [] 0
  | step {J L : List Int} {c v u : Int} (hv : v ∈ L) (hu : u ∈ J) (hm : ∀ x ∈ L, ∀ y ∈ J, d v u ≤ d x y) (h : Prim d (v :: J) (L.erase v) c) : Prim d J L (d v u + c)
theorem Cov.perm0 {d : Int → Int → Int} {J R : List Int} {c : Int} (h : Cov d J R c) (hR : R = []) : c = 0 := by
  cases h with
  | nil => rfl
  | snoc _ _ => simp at hR
theorem Prim.le {d : Int → Int → Int} (m : Met d) {J L : List Int} {c : Int} (h : Prim d J L c) : ∀ {R : List Int} {e : Int}, R.Perm L → L.Nodup → Cov d J R e → c ≤ e := by
  induction h with
  | nil => intro R e hp _ k; rw [k.perm0 (List.perm_nil.1 hp)]; exact Int.le_refl _
  | @step J L c v u hv hu hm h ih =>
    intro R e hp nd k
    obtain ⟨R', e', k1, k2, k3⟩ := Cov.exch m k (hp.mem_iff.2 hv) (fun x hx y hy => hm x (hp.mem_iff.1 hx) y hy) (hp.symm.nodup nd)
    have := ih (k1.trans (hp.erase v)) (nd.erase v) k2
    omega
/-- A way over all is such a tree. -/
theorem Cov.way {d : Int → Int → Int} (m : Met d) (a b : Int) : ∀ (R : List Int), ∃ e, Cov d [a] R e ∧ e ≤ plen d a R b := fun R => by
  have key : ∀ (n : Nat) (R : List Int), R.length = n → ∀ b, ∃ e, Cov d [a] R e ∧ e + d (R.getLast?.getD a) b ≤ plen d a R b := by
    intro n
    induction n with
    | zero => intro R h b; rw [List.length_eq_zero_iff.1 h]; exact ⟨0, .nil, by simp [plen]⟩
    | succ n ih =>
      intro R h b
      rcases List.eq_nil_or_concat R with rfl | ⟨R', x, rfl⟩
      · cases h
      · rw [List.concat_eq_append] at h ⊢
        obtain ⟨e, k1, k2⟩ := ih R' (by simpa using h) x
        refine ⟨e + d x (R'.getLast?.getD a), k1.snoc ?_, ?_⟩
        · cases hq : R'.getLast? with
          | none => exact .inl (by simp)
          | some y => exact .inr (List.mem_of_getLast? hq)
        · rw [plen_app, m.sym x]
          simp [plen]
          omega
  obtain ⟨e, k1, k2⟩ := key _ R rfl b
  have := m.nn (R.getLast?.getD a) b
  exact ⟨e, k1, by omega⟩
/-- A way of twice the tree's weight at most. -/
theorem tour_ins {d : Int → Int → Int} (m : Met d) (a : Int) : ∀ (l : List Int) (v u b : Int), u = a ∨ u ∈ l → ∃ l', l'.Perm (v :: l) ∧ plen d a l' b ≤ plen d a l b + 2 * d v u
  | l, v, u, b, h => by
    by_cases e : u = a
    · subst e
      refine ⟨v :: l, .refl _, ?_⟩
      rw [plen]
      have h1 := m.sym v u
      cases l with
      | nil => rw [plen, plen]; have := m.tri v u b; omega
      | cons t l => rw [plen, plen]; have := m.tri v u t; omega
    · have hu : u ∈ l := h.resolve_left e
      cases l with
      | nil => cases hu
      | cons t l =>
        obtain ⟨l', k1, k2⟩ := tour_ins m t l v u b (by rcases List.mem_cons.1 hu with q | q; exact .inl q; exact .inr q)
        refine ⟨t :: l', (k1.cons t).trans (List.Perm.swap v t l), ?_⟩
        rw [plen, plen]; omega
theorem Prim.tour {d : Int → Int → Int} (m : Met d) (a b : Int) {J L : List Int} {c : Int} (h : Prim d J L c) : ∀ {K : List Int}, (∀ x ∈ J, x = a ∨ x ∈ K) → ∃ l, l.Perm (L ++ K) ∧ plen d a l b ≤ plen d a K b + 2 * c := by
  induction h with
  | nil => intro K _; exact ⟨K, .refl _, by omega⟩
  | @step J L c v u hv hu hm h ih =>
    intro K hK
    obtain ⟨K', k1, k2⟩ := tour_ins m a K v u b (hK u hu)
    obtain ⟨l, k3, k4⟩ := ih (K := K') fun x hx => by
      rcases List.mem_cons.1 hx with rfl | hx
      · exact .inr (k1.mem_iff.2 (by simp))
      · exact (hK x hx).imp id fun q => k1.mem_iff.2 (List.mem_cons_of_mem _ q)
    refine ⟨l, k3.trans ?_, by omega⟩
    have p1 : (L.erase v ++ K').Perm (L.erase v ++ (v :: K)) := k1.append_left _
    have p2 : (L.erase v ++ (v :: K)).Perm (v :: (L.erase v ++ K)) := List.perm_middle
    have p3 : (v :: (L.erase v ++ K)).Perm (L ++ K) := by
      rw [← List.cons_append]
      exact (List.perm_cons_erase hv).symm.append_right K
    exact p1.trans (p2.trans p3)
end Go.Proofs.Xx
