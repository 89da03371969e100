/-
  The reference: sorted, Names, With, Shared, Common.
-/
import Derived.Test.YtidmdnenlgjpeaaGreatDoorM13

namespace Go.Proofs.Xx
open Go Go.Proofs
set_option linter.unusedSimpArgs false
set_option linter.unusedVariables false
set_option linter.unusedSectionVars false
set_option maxRecDepth 100000
set_option maxHeartbeats 4000000

theorem us_nodup {r : Rl} (H : RO r) : (r.us.map (·.name)).Nodup := by
  rw [List.Nodup, List.pairwise_iff_getElem]
  intro i j hi hj hij
  simp only [List.length_map] at hi hj
  have := H.nd i j hij hj
  rw [List.getD_eq_getElem?_getD, List.getD_eq_getElem?_getD, List.getElem?_eq_getElem hj, List.getElem?_eq_getElem hi] at this
  simpa using this
theorem SS.filter {l : List (List UInt8)} (h : SS l) (p : List UInt8 → Bool) : SS (l.filter p) := by
  have hp : l.Pairwise sLt := by
    rw [List.pairwise_iff_getElem]
    intro i j hi hj hij
    have := h i j hij hj
    rwa [List.getD_eq_getElem?_getD, List.getD_eq_getElem?_getD, List.getElem?_eq_getElem hj, List.getElem?_eq_getElem hi] at this
  have hq := hp.filter p
  intro i j hij hj
  have := List.pairwise_iff_getElem.1 hq i j (by omega) hj hij
  rw [List.getD_eq_getElem?_getD, List.getD_eq_getElem?_getD, List.getElem?_eq_getElem hj, List.getElem?_eq_getElem (show i < (l.filter p).length by omega)]
  exact this
variable [Flag]
theorem rsort_ok {h0 : AH} (w : WfH h0) (v : Value) (l : List (List UInt8)) (hr : RdL h0 v 1 eS l) (hl : l.length ≤ 1000000) : Fn Tryz.prog Xh 139 [v] h0 (fun u h' => ∃ l', Sw 0 l.length l l' ∧ Srt sLt 0 l.length l' ∧ Hs h0 h' [.sl u 9 1 eS l']) := by
  have W : WOrd sLt := sLt_ord
  have S := Hs.start w
  refine Fn_K rfl Tryz.func139 rfl rfl ?_
  all_goals (repeat' (first | refine K_seq ?_ | refine k_cond rfl ?_ | refine K_skip ?_ | refine K_exit ?_ | refine k_block ?_ | refine K_scope ?_ | refine K_label ?_ | (refine K_region (id := 0) ?_; refine mv ?_; refine KO_nil ?_) | (refine K_region (id := 1) ?_; refine mv ?_)))
  (refine KO_fn rfl rfl rfl rfl rfl ((cpW_ok S.wf v l (hr.ext w S.ext) hl).mono ?_); rintro v3 h x) <;> (replace S := S.join1 x; clear x; refine mv ?_; refine KO_nil ?_)
  all_goals (repeat' (first | refine K_seq ?_ | refine k_cond rfl ?_ | refine K_skip ?_ | refine K_exit ?_ | refine k_block ?_ | refine K_scope ?_ | refine K_label ?_ | (refine K_region (id := 2) ?_; refine mv ?_; refine KO_nil ?_)))
  refine k_loop (σ := Nat × List (List UInt8)) (fun (i, m) h' => Hs h0 h' [.sl v3 9 1 eS m] ∧ Sw 0 l.length l m ∧ Srt sLt 0 (min i l.length) m) (fun (i, m) => l.length - i) (fun (i, m) => [(3, v3), (4, .int .i64 i)]) (0, l) (by repeat (first | exact Ks.le_nil _ | refine Ks.le_cons rfl ?_ | refine Ks.le_int ?_)) ?_ ?_
  · exact ⟨S, .refl _, fun i j q1 q2 q3 => by omega⟩
  clear S
  rintro ⟨i, m⟩ h ⟨S, g2, g3⟩
  have hml := g2.len
  all_goals (repeat' (first | refine K_seq ?_ | refine k_cond rfl ?_ | refine K_skip ?_ | refine K_exit ?_ | refine k_block ?_ | refine K_scope ?_ | refine K_label ?_ | (refine K_region (id := 3) ?_; refine mv ?_; refine mv ?_; (first | refine lnB S ?_ | refine lnS S rfl rfl ?_); (first | refine cT ?_ | refine cF ?_ | (refine cS ?_ ?_ <;> intro hc)) <;> (refine KO_nil ?_))))
  · have hib : i < l.length := by omega
    rw [Nat.min_eq_left (by omega)] at g3
    all_goals (repeat' (first | refine K_seq ?_ | refine k_cond rfl ?_ | refine K_skip ?_ | refine K_exit ?_ | refine k_block ?_ | refine K_scope ?_ | refine K_label ?_ | (refine K_region (id := 5) ?_; refine mv ?_; refine mv ?_; refine KO_nil ?_)))
    refine k_loop (σ := Nat × List (List UInt8)) (fun (j, n) h' => Hs h0 h' [.sl v3 9 1 eS n] ∧ j ≤ i ∧ Sw 0 l.length l n ∧ InsI sLt 0 i j n) (fun (j, n) => j) (fun (j, n) => [(3, v3), (4, .int .i64 i), (5, .int .i64 j)]) (i, m) (by repeat (first | exact Ks.le_nil _ | refine Ks.le_cons rfl ?_ | refine Ks.le_int ?_)) ?_ ?_
    · exact ⟨S, Nat.le_refl _, g2, InsI.start g3⟩
    clear S g2 g3 hml
    rintro ⟨j, n⟩ h ⟨S, k2, k3, k4⟩
    have hnl := k3.len
    all_goals (repeat' (first | refine K_seq ?_ | refine k_cond rfl ?_ | refine K_skip ?_ | refine K_exit ?_ | refine k_block ?_ | refine K_scope ?_ | refine K_label ?_ | (refine K_draw (id := 6) ?_; refine mv ?_; (first | refine cT ?_ | refine cF ?_ | (refine cS ?_ ?_ <;> intro hc)) <;> (refine mv ?_; (first | refine off ?_ | refine mv ?_); (first | refine off ?_ | refine mv ?_); (first | refine off ?_ | (first | refine ixB S ?_ | refine ixS2 S rfl rfl ?_)); (first | refine off ?_ | (first | refine lB S rfl rfl ?_ | refine lES2 S rfl rfl ?_ | refine lEB S ?_ | refine lH S ?_)); (first | refine off ?_ | refine mv ?_); (first | refine off ?_ | refine mv ?_); (first | refine off ?_ | (first | refine sb ?_ | refine vl ?_)); (first | refine off ?_ | (first | refine ixB S ?_ | refine ixS2 S rfl rfl ?_)); (first | refine off ?_ | (first | refine lB S rfl rfl ?_ | refine lES2 S rfl rfl ?_ | refine lEB S ?_ | refine lH S ?_)); (first | refine off ?_ | (refine tO ?_ ?_ <;> intro hc)) <;> (refine vl ?_; refine KO_nil ?_)))))
    all_goals (try simp only [toNat_pred, toNat_succ, toNat_sum, Int.toNat_natCast] at *)
    · have hj0 : 0 < j := by omega
      skip
      all_goals (repeat' (first | refine K_seq ?_ | refine k_cond rfl ?_ | refine K_skip ?_ | refine K_exit ?_ | refine k_block ?_ | refine K_scope ?_ | refine K_label ?_ | (refine K_region (id := 7) ?_; refine mv ?_; (first | refine sb ?_ | refine vl ?_); refine mv ?_; refine KO_nil ?_) | (refine K_draw (id := 8) ?_; refine mv ?_; refine mv ?_; refine mv ?_; refine mv ?_; (first | refine sb ?_ | refine vl ?_); refine mv ?_; refine mv ?_; (first | refine sb ?_ | refine vl ?_); (first | refine ixB S ?_ | refine ixS2 S rfl rfl ?_); (first | refine lB S rfl rfl ?_ | refine lES2 S rfl rfl ?_ | refine lEB S ?_ | refine lH S ?_); refine mv ?_; refine mv ?_; (first | refine ixB S ?_ | refine ixS2 S rfl rfl ?_); (first | refine lB S rfl rfl ?_ | refine lES2 S rfl rfl ?_ | refine lEB S ?_ | refine lH S ?_); (first | refine ixB S ?_ | refine ixS2 S rfl rfl ?_); (first | (refine sB S rfl rfl ?_; clear S; intro h S) | (refine sE2 S rfl rfl ?_; clear S; intro h S)); (first | refine ixB S ?_ | refine ixS2 S rfl rfl ?_); (first | (refine sB S rfl rfl ?_; clear S; intro h S) | (refine sE2 S rfl rfl ?_; clear S; intro h S)); refine KO_nil ?_)))
      (try simp only [toNat_pred, toNat_succ, toNat_sum, Int.toNat_natCast] at S)
      refine ⟨(j - 1, swp n j (j - 1)), ?_, ?_, (by repeat (first | exact Ks.le_nil _ | refine Ks.le_cons rfl ?_ | refine Ks.le_int ?_))⟩
      · show j - 1 < j; omega
      · exact ⟨S, by (try dsimp only); omega, k3.step j (j - 1) ⟨by omega, by omega⟩ ⟨by omega, by omega⟩ (by omega), k4.next W hj0 k2 (by omega) hc⟩
    · skip
      all_goals (repeat' (first | refine K_seq ?_ | refine k_cond rfl ?_ | refine K_skip ?_ | refine K_exit ?_ | refine k_block ?_ | refine K_scope ?_ | refine K_label ?_ | (refine K_region (id := 4) ?_; refine mv ?_; (first | refine ad ?_ | refine vl ?_); refine mv ?_; refine KO_nil ?_)))
      refine ⟨(i + 1, n), ?_, ?_, (by repeat (first | exact Ks.le_nil _ | refine Ks.le_cons rfl ?_ | refine Ks.le_int ?_))⟩
      · show l.length - (i + 1) < l.length - i; omega
      · simp only [Nat.min_eq_left (show i + 1 ≤ l.length by omega)]
        exact ⟨S, k3, k4.done W (.inr hc)⟩
    · skip
      all_goals (repeat' (first | refine K_seq ?_ | refine k_cond rfl ?_ | refine K_skip ?_ | refine K_exit ?_ | refine k_block ?_ | refine K_scope ?_ | refine K_label ?_ | (refine K_region (id := 4) ?_; refine mv ?_; (first | refine ad ?_ | refine vl ?_); refine mv ?_; refine KO_nil ?_)))
      refine ⟨(i + 1, n), ?_, ?_, (by repeat (first | exact Ks.le_nil _ | refine Ks.le_cons rfl ?_ | refine Ks.le_int ?_))⟩
      · show l.length - (i + 1) < l.length - i; omega
      · simp only [Nat.min_eq_left (show i + 1 ≤ l.length by omega)]
        exact ⟨S, k3, k4.done W (.inl (by omega))⟩
  · rw [Nat.min_eq_right (by omega)] at g3
    skip
    all_goals (repeat' (first | refine K_seq ?_ | refine k_cond rfl ?_ | refine K_skip ?_ | refine K_exit ?_ | refine k_block ?_ | refine K_scope ?_ | refine K_label ?_ | (refine K_region (id := 9) ?_; refine mv ?_; refine mv ?_; refine KO_nil ?_)))
    refine K_ret ⟨_, rfl, ?_⟩
    exact ⟨m, g2, g3, S⟩
theorem rnames_ok {h0 : AH} (w : WfH h0) (v : RlV) (r : Rl) (HR : RlOk h0 v r) (H : RO r) : Fn Tryz.prog Xh 133 [v.val] h0 (fun u h' => ∃ l, Hs h0 h' [.sl u 9 1 eS l] ∧ SS l ∧ (∀ x, x ∈ l ↔ gat r.us x ≠ none) ∧ l.length = r.us.length) := by
  have S := Hs.start w
  have hrg := HR.rg
  have hgl := HR.len
  have h64 := H.l64
  unfold RlV.val
  refine Fn_K rfl Tryz.func133 rfl rfl ?_
  all_goals (repeat' (first | refine K_seq ?_ | refine k_cond rfl ?_ | refine K_skip ?_ | refine K_exit ?_ | refine k_block ?_ | refine K_scope ?_ | refine K_label ?_ | (refine K_region (id := 0) ?_; (refine bx S ?_; clear S; intro b h S); refine mv ?_; refine KO_nil ?_) | (refine K_region (id := 1) ?_; refine mv ?_; refine KO_nil ?_) | (refine K_region (id := 2) ?_; refine mv ?_; refine KO_nil ?_)))
  have S := S.nilS (e := 9) (z := 1) (enc := eS)
  obtain ⟨b1, hnm⟩ : ∃ x, x = b := ⟨_, rfl⟩; subst hnm
  replace S : Hs h0 h (.sl (.slice none 0 0) 9 1 eS [] :: .blk b1 [v.vg.val, v.vt.val] 32 :: []) := S
  refine k_loop (σ := Nat × Value) (fun (i, v3) h' => Hs h0 h' [.sl v3 9 1 eS ((r.us.take i).map (·.name)), .blk b1 [v.vg.val, v.vt.val] 32] ∧ i ≤ r.us.length) (fun (i, v3) => r.us.length - i) (fun (i, v3) => [(1, .pointer (some ⟨b1, 0, none⟩)), (3, v3), (4, .int .i64 i)]) (0, .slice none 0 0) (by repeat (first | exact Ks.le_nil _ | refine Ks.le_cons rfl ?_ | refine Ks.le_int ?_)) ?_ ?_
  · exact ⟨S, Nat.zero_le _⟩
  clear S
  rintro ⟨i, v3⟩ h ⟨S, g1⟩
  have htl : ((r.us.take i).map (·.name)).length ≤ 64 := by simp; omega
  all_goals (repeat' (first | refine K_seq ?_ | refine k_cond rfl ?_ | refine K_skip ?_ | refine K_exit ?_ | refine k_block ?_ | refine K_scope ?_ | refine K_label ?_ | (refine K_region (id := 3) ?_; refine mv ?_; (first | refine vl ?_ | refine fB S ?_ | refine fS S rfl rfl ?_ | refine fA ?_); (first | refine lB S rfl rfl ?_ | refine lES2 S rfl rfl ?_ | refine lEB S ?_ | refine lH S ?_); (first | refine lnB S ?_ | refine lnS S rfl rfl ?_); (first | refine cT ?_ | refine cF ?_ | (refine cS ?_ ?_ <;> intro hc)) <;> (refine KO_nil ?_))))
  · have hil : i < v.gs.length := by omega
    have hg := HR.at_ hil
    all_goals (repeat' (first | refine K_seq ?_ | refine k_cond rfl ?_ | refine K_skip ?_ | refine K_exit ?_ | refine k_block ?_ | refine K_scope ?_ | refine K_label ?_ | (refine K_region (id := 5) ?_; refine mv ?_; (first | refine vl ?_ | refine fB S ?_ | refine fS S rfl rfl ?_ | refine fA ?_); (first | refine lB S rfl rfl ?_ | refine lES2 S rfl rfl ?_ | refine lEB S ?_ | refine lH S ?_); refine mv ?_; (first | refine ixB S ?_ | refine ixS2 S rfl rfl ?_); (first | refine vl ?_ | refine fB S ?_ | refine fS S rfl rfl ?_ | refine fA ?_); (first | refine lB S rfl rfl ?_ | refine lES2 S rfl rfl ?_ | refine lEB S ?_ | refine lH S ?_); (refine one 1 S ?_; clear S; intro u h S))))
    simp only [Int.toNat_natCast] at *
    refine app (y0 := (v.gs.getD i default).name) S rfl rfl ?_; clear S; intro v3 h S; (refine mv ?_; refine KO_nil ?_)
    all_goals (repeat' (first | refine K_seq ?_ | refine k_cond rfl ?_ | refine K_skip ?_ | refine K_exit ?_ | refine k_block ?_ | refine K_scope ?_ | refine K_label ?_ | (refine K_region (id := 4) ?_; refine mv ?_; (first | refine ad ?_ | refine vl ?_); refine mv ?_; refine KO_nil ?_)))
    refine ⟨(i + 1, v3), ?_, ?_, (by repeat (first | exact Ks.le_nil _ | refine Ks.le_cons rfl ?_ | refine Ks.le_int ?_))⟩
    · show r.us.length - (i + 1) < r.us.length - i; omega
    · have e : (r.us.take (i + 1)).map (·.name) = (r.us.take i).map (·.name) ++ [(v.gs.getD i default).name] := by rw [take_succ_getD (by omega), ← hg]; simp
      refine ⟨?_, by (try dsimp only); omega⟩
      dsimp only
      rw [e]; exact S.pick
  · obtain rfl : i = r.us.length := by omega
    rw [List.take_length] at S htl
    skip
    all_goals (repeat' (first | refine K_seq ?_ | refine k_cond rfl ?_ | refine K_skip ?_ | refine K_exit ?_ | refine k_block ?_ | refine K_scope ?_ | refine K_label ?_ | (refine K_region (id := 6) ?_; refine mv ?_)))
    (refine KO_fn rfl rfl rfl rfl rfl ((rsort_ok S.wf v3 (r.us.map (·.name)) (Rd.of_sl S .here) (Nat.le_trans htl (by decide))).mono ?_); rintro u h ⟨l, z1, z2, x⟩) <;> (replace S := S.join1 x; clear x; refine mv ?_; refine KO_nil ?_)
    all_goals (repeat' (first | refine K_seq ?_ | refine k_cond rfl ?_ | refine K_skip ?_ | refine K_exit ?_ | refine k_block ?_ | refine K_scope ?_ | refine K_label ?_))
    refine K_ret ⟨_, rfl, ?_⟩
    refine ⟨l, S.only .here, SS.of z1 z2 (us_nodup H), fun x => ?_, (by rw [z1.len]; simp)⟩
    rw [z1.perm.mem_iff, gat_mem, List.mem_map]
end Go.Proofs.Xx

/-
  The reference: With, Shared, Common.
-/
namespace Go.Proofs.Xx
open Go Go.Proofs
set_option linter.unusedSimpArgs false
set_option linter.unusedVariables false
set_option linter.unusedSectionVars false
set_option maxRecDepth 100000
set_option maxHeartbeats 4000000

def adB (r : Rl) (k : Int) (n x : List UInt8) : Bool := match tieOf r.ts n x with | some t => decide (t.k = k) | none => false
theorem adB_adj {r : Rl} (H : RO r) {k : Int} {n x : List UInt8} : adB r k n x = true ↔ adj r k n x := by
  unfold adB
  constructor
  · intro h
    cases hq : tieOf r.ts n x with
    | none => rw [hq] at h; cases h
    | some t =>
      rw [hq] at h
      have e : t.k = k := of_decide_eq_true h
      exact e ▸ adj_tieOf hq
  · intro h
    obtain ⟨t, h1, h2⟩ := tieOf_adj H h
    rw [h1]
    exact decide_eq_true h2
theorem TgOk.ss {l : List (List UInt8)} (h : TgOk l) : SS l := fun i j hij => by
  induction j with
  | zero => omega
  | succ j ih =>
    intro hj
    have h1 := (h (j + 1) hj).2 (by omega)
    rw [Nat.add_sub_cancel] at h1
    rcases Nat.lt_or_ge i j with q | q
    · exact sLt_trans (ih q (by omega)) h1
    · obtain rfl : i = j := by omega
      exact h1
variable [Flag]
theorem rwith_ok {h0 : AH} (w : WfH h0) (v : RlV) (r : Rl) (HR : RlOk h0 v r) (H : RO r) (n : List UInt8) (k : Int) : Fn Tryz.prog Xh 85 [v.val, str n, .int .u8 k] h0 (fun u h' => ∃ l, Hs h0 h' [.sl u 9 1 eS l] ∧ SS l ∧ (∀ x, x ∈ l ↔ adj r k n x) ∧ l.length ≤ 64) := by
  have S := Hs.start w
  have h64 := H.l64
  unfold RlV.val
  refine Fn_K rfl Tryz.func85 rfl rfl ?_
  all_goals (repeat' (first | refine K_seq ?_ | refine k_cond rfl ?_ | refine K_skip ?_ | refine K_exit ?_ | refine k_block ?_ | refine K_scope ?_ | refine K_label ?_ | (refine K_region (id := 0) ?_; (refine bx S ?_; clear S; intro b h S); refine mv ?_; refine KO_nil ?_) | (refine K_region (id := 1) ?_; refine mv ?_; refine KO_nil ?_)))
  obtain ⟨b3, hnm⟩ : ∃ x, x = b := ⟨_, rfl⟩; subst hnm
  replace S : Hs h0 h (.blk b3 [v.vg.val, v.vt.val] 32 :: []) := S
  all_goals (repeat' (first | refine K_seq ?_ | refine k_cond rfl ?_ | refine K_skip ?_ | refine K_exit ?_ | refine k_block ?_ | refine K_scope ?_ | refine K_label ?_ | (refine K_region (id := 2) ?_; (first | refine lB S rfl rfl ?_ | refine lES2 S rfl rfl ?_ | refine lEB S ?_ | refine lH S ?_))))
  (refine KO_fn rfl rfl rfl rfl rfl ((rnames_ok S.wf v r (HR.ext w S.ext) H).mono ?_); rintro un h ⟨ns, x, n1, n2, n3⟩) <;> (replace S := S.join1 x; clear x; refine mv ?_; refine KO_nil ?_)
  have S := S.nilS (e := 9) (z := 1) (enc := eS)
  all_goals (repeat' (first | refine K_seq ?_ | refine k_cond rfl ?_ | refine K_skip ?_ | refine K_exit ?_ | refine k_block ?_ | refine K_scope ?_ | refine K_label ?_ | (refine K_region (id := 3) ?_; refine mv ?_; refine KO_nil ?_)))
  refine k_loop (σ := Nat × Value) (fun (i, v7) h' => Hs h0 h' [.sl v7 9 1 eS ((ns.take i).filter (adB r k n)), .sl un 9 1 eS ns, .blk b3 [v.vg.val, v.vt.val] 32] ∧ i ≤ ns.length) (fun (i, v7) => ns.length - i) (fun (i, v7) => [(1, str n), (2, .int .u8 k), (3, .pointer (some ⟨b3, 0, none⟩)), (7, v7), (8, un), (9, .int .i64 i)]) (0, .slice none 0 0) (by repeat (first | exact Ks.le_nil _ | refine Ks.le_cons rfl ?_ | refine Ks.le_int ?_)) ?_ ?_
  · exact ⟨S, Nat.zero_le _⟩
  clear S
  rintro ⟨i, v7⟩ h ⟨S, g1⟩
  have htl : ((ns.take i).filter (adB r k n)).length ≤ 64 := by
    have := List.length_filter_le (adB r k n) (ns.take i)
    simp at this; omega
  all_goals (repeat' (first | refine K_seq ?_ | refine k_cond rfl ?_ | refine K_skip ?_ | refine K_exit ?_ | refine k_block ?_ | refine K_scope ?_ | refine K_label ?_ | (refine K_region (id := 4) ?_; refine mv ?_; refine mv ?_; (first | refine lnB S ?_ | refine lnS S rfl rfl ?_); (first | refine cT ?_ | refine cF ?_ | (refine cS ?_ ?_ <;> intro hc)) <;> (refine KO_nil ?_))))
  · have hil : i < ns.length := by omega
    have hts : ∀ b, adB r k n (ns.getD i default) = b → (ns.take (i + 1)).filter (adB r k n) = (ns.take i).filter (adB r k n) ++ if b then [ns.getD i default] else [] := fun b hb => by
      rw [take_succ_getD hil, List.filter_append, List.filter_cons, hb]; cases b <;> simp
    all_goals (repeat' (first | refine K_seq ?_ | refine k_cond rfl ?_ | refine K_skip ?_ | refine K_exit ?_ | refine k_block ?_ | refine K_scope ?_ | refine K_label ?_ | (refine K_draw (id := 6) ?_; (first | refine lB S rfl rfl ?_ | refine lES2 S rfl rfl ?_ | refine lEB S ?_ | refine lH S ?_); refine mv ?_; refine mv ?_; refine mv ?_; (first | refine ixB S ?_ | refine ixS2 S rfl rfl ?_); (first | refine lB S rfl rfl ?_ | refine lES2 S rfl rfl ?_ | refine lEB S ?_ | refine lH S ?_))))
    simp only [Int.toNat_natCast]
    (refine KO_fn rfl rfl rfl rfl rfl ((rtied_ok S.wf v r (HR.ext w S.ext) H n (ns.getD i default)).mono ?_); rintro _ h ⟨⟨t, ht, rfl⟩ | ⟨ht, rfl⟩, x⟩) <;> (replace S := S.join0 x; clear x; refine mv ?_; refine vl ?_; refine vl ?_; refine mv ?_; refine mv ?_; refine KO_nil ?_)
    · skip
      all_goals (repeat' (first | refine K_seq ?_ | refine k_cond rfl ?_ | refine K_skip ?_ | refine K_exit ?_ | refine k_block ?_ | refine K_scope ?_ | refine K_label ?_ | (refine K_region (id := 7) ?_; refine mv ?_; refine mv ?_; (first | refine off ?_ | refine mv ?_); (first | refine off ?_ | refine mv ?_); (first | refine off ?_ | (first | refine cT ?_ | refine cF ?_ | (refine cS ?_ ?_ <;> intro hc))) <;> (refine vl ?_; refine KO_nil ?_)) | (refine K_region (id := 8) ?_; refine mv ?_; refine mv ?_; refine mv ?_; (first | refine ixB S ?_ | refine ixS2 S rfl rfl ?_); (first | refine lB S rfl rfl ?_ | refine lES2 S rfl rfl ?_ | refine lEB S ?_ | refine lH S ?_); (refine one 1 S ?_; clear S; intro u h S))))
      all_goals (try simp only [Int.toNat_natCast] at *)
      · have e := hts true (by unfold adB; rw [ht]; exact decide_eq_true hc)
        refine app (y0 := ns.getD i default) S rfl rfl ?_; clear S; intro v7 h S; (refine mv ?_; refine KO_nil ?_)
        skip
        all_goals (repeat' (first | refine K_seq ?_ | refine k_cond rfl ?_ | refine K_skip ?_ | refine K_exit ?_ | refine k_block ?_ | refine K_scope ?_ | refine K_label ?_ | (refine K_region (id := 5) ?_; refine mv ?_; (first | refine ad ?_ | refine vl ?_); refine mv ?_; refine KO_nil ?_)))
        refine ⟨(i + 1, v7), ?_, ?_, (by repeat (first | exact Ks.le_nil _ | refine Ks.le_cons rfl ?_ | refine Ks.le_int ?_))⟩
        · show ns.length - (i + 1) < ns.length - i; omega
        · refine ⟨?_, by (try dsimp only); omega⟩
          (try dsimp only)
          rw [e, if_pos rfl]; exact S.pick
      · have e := hts false (by unfold adB; rw [ht]; exact decide_eq_false hc)
        skip
        all_goals (repeat' (first | refine K_seq ?_ | refine k_cond rfl ?_ | refine K_skip ?_ | refine K_exit ?_ | refine k_block ?_ | refine K_scope ?_ | refine K_label ?_ | (refine K_region (id := 5) ?_; refine mv ?_; (first | refine ad ?_ | refine vl ?_); refine mv ?_; refine KO_nil ?_)))
        refine ⟨(i + 1, v7), ?_, ?_, (by repeat (first | exact Ks.le_nil _ | refine Ks.le_cons rfl ?_ | refine Ks.le_int ?_))⟩
        · show ns.length - (i + 1) < ns.length - i; omega
        · refine ⟨?_, by (try dsimp only); omega⟩
          (try dsimp only)
          rw [e]; simp only [Bool.false_eq_true, if_false, List.append_nil]; exact S.pick
    · have e := hts false (by unfold adB; rw [ht])
      skip
      all_goals (repeat' (first | refine K_seq ?_ | refine k_cond rfl ?_ | refine K_skip ?_ | refine K_exit ?_ | refine k_block ?_ | refine K_scope ?_ | refine K_label ?_ | (refine K_region (id := 5) ?_; refine mv ?_; (first | refine ad ?_ | refine vl ?_); refine mv ?_; refine KO_nil ?_) | (refine K_region (id := 7) ?_; refine mv ?_; refine mv ?_; (first | refine off ?_ | refine mv ?_); (first | refine off ?_ | refine mv ?_); (first | refine off ?_ | (first | refine cT ?_ | refine cF ?_ | (refine cS ?_ ?_ <;> intro hc))) <;> (refine vl ?_; refine KO_nil ?_))))
      refine ⟨(i + 1, v7), ?_, ?_, (by repeat (first | exact Ks.le_nil _ | refine Ks.le_cons rfl ?_ | refine Ks.le_int ?_))⟩
      · show ns.length - (i + 1) < ns.length - i; omega
      · refine ⟨?_, by (try dsimp only); omega⟩
        (try dsimp only)
        rw [e]; simp only [Bool.false_eq_true, if_false, List.append_nil]; exact S.pick
  · obtain rfl : i = ns.length := by omega
    rw [List.take_length] at S htl
    skip
    all_goals (repeat' (first | refine K_seq ?_ | refine k_cond rfl ?_ | refine K_skip ?_ | refine K_exit ?_ | refine k_block ?_ | refine K_scope ?_ | refine K_label ?_ | (refine K_region (id := 9) ?_; refine mv ?_; refine mv ?_; refine KO_nil ?_)))
    refine K_ret ⟨_, rfl, ?_⟩
    refine ⟨_, S.only .here, n1.filter _, fun x => ?_, htl⟩
    rw [List.mem_filter, adB_adj H]
    exact ⟨fun q => q.2, fun q => ⟨(n2 x).2 (adj_known H q).2.1, q⟩⟩
theorem rshared_ok {h0 : AH} (w : WfH h0) (g1 g2 : Gst) (r1 : RdL h0 g1.tv.val 1 eS g1.tg) (r2 : RdL h0 g2.tv.val 1 eS g2.tg) (l1 : g1.tg.length ≤ 4) (l2 : g2.tg.length ≤ 4) (s2 : SS g2.tg) : Fn Tryz.prog Xh 132 [gV g1, gV g2] h0 (fun u h' => Hs h0 h' [.sl u 9 1 eS (g1.tg.filter (keepC g2))]) := by
  have S := Hs.start w
  unfold gV
  refine Fn_K rfl Tryz.func132 rfl rfl ?_
  (repeat (refine K_seq ?_)); refine K_region (id := 0) ?_; refine bx S ?_; clear S; intro b2 h S; refine bx S ?_; clear S; intro b3 h S; (refine mv ?_; refine KO_nil ?_)
  replace S : Hs h0 h (.blk b3 (eG g2) 24 :: .blk b2 (eG g1) 24 :: []) := S
  unfold eG at S
  have S := S.nilS (e := 9) (z := 1) (enc := eS)
  all_goals (repeat' (first | refine K_seq ?_ | refine k_cond rfl ?_ | refine K_skip ?_ | refine K_exit ?_ | refine k_block ?_ | refine K_scope ?_ | refine K_label ?_ | (refine K_region (id := 1) ?_; refine mv ?_; refine KO_nil ?_) | (refine K_region (id := 2) ?_; refine mv ?_; refine KO_nil ?_)))
  refine k_loop (σ := Nat × Value) (fun (i, v5) h' => Hs h0 h' [.sl v5 9 1 eS ((g1.tg.take i).filter (keepC g2)), .blk b3 [str g2.name, str g2.rank, str g2.court, .int .i64 g2.since, .int .i64 g2.side, str g2.diet, .bool g2.host, .bool g2.access, g2.tv.val] 24, .blk b2 [str g1.name, str g1.rank, str g1.court, .int .i64 g1.since, .int .i64 g1.side, str g1.diet, .bool g1.host, .bool g1.access, g1.tv.val] 24] ∧ i ≤ g1.tg.length) (fun (i, v5) => g1.tg.length - i) (fun (i, v5) => [(2, .pointer (some ⟨b2, 0, none⟩)), (3, .pointer (some ⟨b3, 0, none⟩)), (5, v5), (6, .int .i64 i)]) (0, .slice none 0 0) (by repeat (first | exact Ks.le_nil _ | refine Ks.le_cons rfl ?_ | refine Ks.le_int ?_)) ?_ ?_
  · exact ⟨S, Nat.zero_le _⟩
  clear S
  rintro ⟨i, v5⟩ h ⟨S, k1⟩
  have htl : ((g1.tg.take i).filter (keepC g2)).length ≤ 4 := by
    have := List.length_filter_le (keepC g2) (g1.tg.take i)
    simp at this; omega
  all_goals (repeat' (first | refine K_seq ?_ | refine k_cond rfl ?_ | refine K_skip ?_ | refine K_exit ?_ | refine k_block ?_ | refine K_scope ?_ | refine K_label ?_ | (refine K_region (id := 3) ?_; refine mv ?_; (first | refine vl ?_ | refine fB S ?_ | refine fS S rfl rfl ?_ | refine fA ?_); (first | refine lB S rfl rfl ?_ | refine lES2 S rfl rfl ?_ | refine lEB S ?_ | refine lH S ?_); (first | refine lnB S ?_ | refine lnS S rfl rfl ?_); (first | refine cT ?_ | refine cF ?_ | (refine cS ?_ ?_ <;> intro hc)) <;> (refine KO_nil ?_))))
  · have hil : i < g1.tg.length := by omega
    have hts : ∀ b, keepC g2 (g1.tg.getD i default) = b → (g1.tg.take (i + 1)).filter (keepC g2) = (g1.tg.take i).filter (keepC g2) ++ if b then [g1.tg.getD i default] else [] := fun b hb => by
      rw [take_succ_getD hil, List.filter_append, List.filter_cons, hb]; cases b <;> simp
    all_goals (repeat' (first | refine K_seq ?_ | refine k_cond rfl ?_ | refine K_skip ?_ | refine K_exit ?_ | refine k_block ?_ | refine K_scope ?_ | refine K_label ?_ | (refine K_region (id := 5) ?_; refine mv ?_; refine KO_nil ?_)))
    obtain ⟨L, hL⟩ : ∃ L, (g1.tg.take i).filter (keepC g2) = L := ⟨_, rfl⟩
    rw [hL] at S htl hts
    refine k_loop (σ := Nat × Value × Bool) (fun (k, v5, d) h' => Hs h0 h' [.sl v5 9 1 eS (L ++ if d then [g1.tg.getD i default] else []), .blk b3 [str g2.name, str g2.rank, str g2.court, .int .i64 g2.since, .int .i64 g2.side, str g2.diet, .bool g2.host, .bool g2.access, g2.tv.val] 24, .blk b2 [str g1.name, str g1.rank, str g1.court, .int .i64 g1.since, .int .i64 g1.side, str g1.diet, .bool g1.host, .bool g1.access, g1.tv.val] 24] ∧ k ≤ g2.tg.length ∧ (d = true ↔ ∃ j, j < k ∧ g2.tg.getD j default = g1.tg.getD i default)) (fun (k, v5, d) => g2.tg.length - k) (fun (k, v5, d) => [(2, .pointer (some ⟨b2, 0, none⟩)), (3, .pointer (some ⟨b3, 0, none⟩)), (5, v5), (6, .int .i64 i), (7, .int .i64 k)]) (0, v5, false) (by repeat (first | exact Ks.le_nil _ | refine Ks.le_cons rfl ?_ | refine Ks.le_int ?_)) ?_ ?_
    · refine ⟨?_, Nat.zero_le _, by simp⟩
      (try dsimp only)
      rw [if_neg (by simp), List.append_nil]; exact S
    clear S
    rintro ⟨k, v5, d⟩ h ⟨S, m1, m2⟩
    all_goals (repeat' (first | refine K_seq ?_ | refine k_cond rfl ?_ | refine K_skip ?_ | refine K_exit ?_ | refine k_block ?_ | refine K_scope ?_ | refine K_label ?_ | (refine K_region (id := 6) ?_; refine mv ?_; (first | refine vl ?_ | refine fB S ?_ | refine fS S rfl rfl ?_ | refine fA ?_); (first | refine lB S rfl rfl ?_ | refine lES2 S rfl rfl ?_ | refine lEB S ?_ | refine lH S ?_); (first | refine lnB S ?_ | refine lnS S rfl rfl ?_); (first | refine cT ?_ | refine cF ?_ | (refine cS ?_ ?_ <;> intro hc)) <;> (refine KO_nil ?_))))
    · have hkl : k < g2.tg.length := by omega
      all_goals (repeat' (first | refine K_seq ?_ | refine k_cond rfl ?_ | refine K_skip ?_ | refine K_exit ?_ | refine k_block ?_ | refine K_scope ?_ | refine K_label ?_ | (refine K_draw (id := 8) ?_; (first | refine vl ?_ | refine fB S ?_ | refine fS S rfl rfl ?_ | refine fA ?_); (first | refine lB S rfl rfl ?_ | refine lES2 S rfl rfl ?_ | refine lEB S ?_ | refine lH S ?_); refine mv ?_; (first | refine ixB S ?_ | refine ixS2 S rfl rfl ?_); (first | refine lB S rfl rfl ?_ | refine lES2 S rfl rfl ?_ | refine lEB S ?_ | refine lH S ?_); (first | refine vl ?_ | refine fB S ?_ | refine fS S rfl rfl ?_ | refine fA ?_); (first | refine lB S rfl rfl ?_ | refine lES2 S rfl rfl ?_ | refine lEB S ?_ | refine lH S ?_); refine mv ?_; (first | refine ixB S ?_ | refine ixS2 S rfl rfl ?_); (first | refine lB S rfl rfl ?_ | refine lES2 S rfl rfl ?_ | refine lEB S ?_ | refine lH S ?_); (refine tS ?_ ?_ <;> intro hc) <;> (refine KO_nil ?_))))
      all_goals (try simp only [Int.toNat_natCast] at *)
      · have hd : d = false := by
          cases d with
          | false => rfl
          | true =>
            obtain ⟨j, j1, j2⟩ := m2.1 rfl
            exact absurd (j2.trans hc) (nodup_ne s2.nodup j1 hkl)
        subst hd
        rw [if_neg (by simp), List.append_nil] at S
        all_goals (repeat' (first | refine K_seq ?_ | refine k_cond rfl ?_ | refine K_skip ?_ | refine K_exit ?_ | refine k_block ?_ | refine K_scope ?_ | refine K_label ?_ | (refine K_region (id := 9) ?_; refine mv ?_; (first | refine vl ?_ | refine fB S ?_ | refine fS S rfl rfl ?_ | refine fA ?_); (first | refine lB S rfl rfl ?_ | refine lES2 S rfl rfl ?_ | refine lEB S ?_ | refine lH S ?_); refine mv ?_; (first | refine ixB S ?_ | refine ixS2 S rfl rfl ?_); (first | refine lB S rfl rfl ?_ | refine lES2 S rfl rfl ?_ | refine lEB S ?_ | refine lH S ?_); (refine one 1 S ?_; clear S; intro u h S))))
        simp only [Int.toNat_natCast] at *
        refine app (y0 := g1.tg.getD i default) S rfl rfl ?_; clear S; intro v5 h S; (refine mv ?_; refine KO_nil ?_)
        skip
        all_goals (repeat' (first | refine K_seq ?_ | refine k_cond rfl ?_ | refine K_skip ?_ | refine K_exit ?_ | refine k_block ?_ | refine K_scope ?_ | refine K_label ?_ | (refine K_region (id := 7) ?_; refine mv ?_; (first | refine ad ?_ | refine vl ?_); refine mv ?_; refine KO_nil ?_)))
        refine ⟨(k + 1, v5, true), ?_, ?_, (by repeat (first | exact Ks.le_nil _ | refine Ks.le_cons rfl ?_ | refine Ks.le_int ?_))⟩
        · show g2.tg.length - (k + 1) < g2.tg.length - k; omega
        · refine ⟨?_, by (try dsimp only); omega, ⟨fun _ => ⟨k, by (try dsimp only); omega, hc.symm⟩, fun _ => rfl⟩⟩
          (try dsimp only)
          rw [if_pos rfl]; exact S
      · skip
        all_goals (repeat' (first | refine K_seq ?_ | refine k_cond rfl ?_ | refine K_skip ?_ | refine K_exit ?_ | refine k_block ?_ | refine K_scope ?_ | refine K_label ?_ | (refine K_region (id := 7) ?_; refine mv ?_; (first | refine ad ?_ | refine vl ?_); refine mv ?_; refine KO_nil ?_)))
        refine ⟨(k + 1, v5, d), ?_, ?_, (by repeat (first | exact Ks.le_nil _ | refine Ks.le_cons rfl ?_ | refine Ks.le_int ?_))⟩
        · show g2.tg.length - (k + 1) < g2.tg.length - k; omega
        · refine ⟨S, by (try dsimp only); omega, ?_⟩
          (try dsimp only)
          rw [m2]
          constructor
          · rintro ⟨j, j1, j2⟩; exact ⟨j, by omega, j2⟩
          · rintro ⟨j, j1, j2⟩
            rcases Nat.lt_or_ge j k with q | q
            · exact ⟨j, q, j2⟩
            · obtain rfl : j = k := by omega
              exact absurd j2.symm hc
    · obtain rfl : k = g2.tg.length := by omega
      have e := hts d (by
        cases d with
        | true =>
          obtain ⟨j, j1, j2⟩ := m2.1 rfl
          exact keepC_yes (j2 ▸ mem_getD j1)
        | false =>
          refine keepC_no fun q => ?_
          obtain ⟨j, j1, j2⟩ := mem_iff_getD.1 q
          have := m2.2 ⟨j, j1, j2⟩
          cases this)
      skip
      all_goals (repeat' (first | refine K_seq ?_ | refine k_cond rfl ?_ | refine K_skip ?_ | refine K_exit ?_ | refine k_block ?_ | refine K_scope ?_ | refine K_label ?_ | (refine K_region (id := 4) ?_; refine mv ?_; (first | refine ad ?_ | refine vl ?_); refine mv ?_; refine KO_nil ?_)))
      refine ⟨(i + 1, v5), ?_, ?_, (by repeat (first | exact Ks.le_nil _ | refine Ks.le_cons rfl ?_ | refine Ks.le_int ?_))⟩
      · show g1.tg.length - (i + 1) < g1.tg.length - i; omega
      · refine ⟨?_, by (try dsimp only); omega⟩
        (try dsimp only)
        rw [e]; exact S
  · obtain rfl : i = g1.tg.length := by omega
    rw [List.take_length] at S
    skip
    all_goals (repeat' (first | refine K_seq ?_ | refine k_cond rfl ?_ | refine K_skip ?_ | refine K_exit ?_ | refine k_block ?_ | refine K_scope ?_ | refine K_label ?_ | (refine K_region (id := 10) ?_; refine mv ?_; refine mv ?_; refine KO_nil ?_)))
    refine K_ret ⟨_, rfl, ?_⟩
    exact S.only .here
theorem rcommon_ok {h0 : AH} (w : WfH h0) (v : RlV) (r : Rl) (HR : RlOk h0 v r) (H : RO r) (na nb : List UInt8) : Fn Tryz.prog Xh 84 [v.val, str na, str nb] h0 (fun u h' => ∃ l, Hs h0 h' [.sl u 9 1 eS l] ∧ l = comF r na nb ∧ l.length ≤ 4) := by
  have S := Hs.start w
  have hrg := HR.rg
  have hlg := HR.lg
  have hgl := HR.len
  unfold RlV.val
  refine Fn_K rfl Tryz.func84 rfl rfl ?_
  all_goals (repeat' (first | refine K_seq ?_ | refine k_cond rfl ?_ | refine K_skip ?_ | refine K_exit ?_ | refine k_block ?_ | refine K_scope ?_ | refine K_label ?_ | (refine K_region (id := 0) ?_; (refine bx S ?_; clear S; intro b h S); refine mv ?_; refine KO_nil ?_) | (refine K_region (id := 1) ?_; (first | refine vl ?_ | refine fB S ?_ | refine fS S rfl rfl ?_ | refine fA ?_); (first | refine lB S rfl rfl ?_ | refine lES2 S rfl rfl ?_ | refine lEB S ?_ | refine lH S ?_); refine mv ?_)))
  obtain ⟨b3, hnm⟩ : ∃ x, x = b := ⟨_, rfl⟩; subst hnm
  (refine KO_fn rfl rfl rfl rfl rfl ((refAt_ok S.wf v.vg.val v.gs (hrg.ext w S.ext) (by omega) na).mono ?_); rintro _ h ⟨⟨i, i1, i2, rfl⟩ | ⟨i1, rfl⟩, x⟩) <;> (replace S := S.join0 x; clear x; refine mv ?_; refine KO_nil ?_)
  all_goals rw [HR.us] at i1
  all_goals (all_goals (repeat' (first | refine K_seq ?_ | refine k_cond rfl ?_ | refine K_skip ?_ | refine K_exit ?_ | refine k_block ?_ | refine K_scope ?_ | refine K_label ?_ | (refine K_region (id := 1) ?_; (first | refine vl ?_ | refine fB S ?_ | refine fS S rfl rfl ?_ | refine fA ?_); (first | refine lB S rfl rfl ?_ | refine lES2 S rfl rfl ?_ | refine lEB S ?_ | refine lH S ?_); refine mv ?_) | (refine K_region (id := 2) ?_; (first | refine vl ?_ | refine fB S ?_ | refine fS S rfl rfl ?_ | refine fA ?_); (first | refine lB S rfl rfl ?_ | refine lES2 S rfl rfl ?_ | refine lEB S ?_ | refine lH S ?_); refine mv ?_))))
  · (refine KO_fn rfl rfl rfl rfl rfl ((refAt_ok S.wf v.vg.val v.gs (hrg.ext w S.ext) (by omega) nb).mono ?_); rintro _ h ⟨⟨j, j1, j2, rfl⟩ | ⟨j1, rfl⟩, x⟩) <;> (replace S := S.join0 x; clear x; refine mv ?_; refine KO_nil ?_)
    all_goals rw [HR.us] at j1
    · all_goals (repeat' (first | refine K_seq ?_ | refine k_cond rfl ?_ | refine K_skip ?_ | refine K_exit ?_ | refine k_block ?_ | refine K_scope ?_ | refine K_label ?_ | (refine K_region (id := 2) ?_; (first | refine vl ?_ | refine fB S ?_ | refine fS S rfl rfl ?_ | refine fA ?_); (first | refine lB S rfl rfl ?_ | refine lES2 S rfl rfl ?_ | refine lEB S ?_ | refine lH S ?_); refine mv ?_) | (refine K_region (id := 3) ?_; refine mv ?_; (first | refine cT ?_ | refine cF ?_ | (refine cS ?_ ?_ <;> intro hc)) <;> (refine mv ?_; (first | refine off ?_ | refine mv ?_); (first | refine off ?_ | (first | refine cT ?_ | refine cF ?_ | (refine cS ?_ ?_ <;> intro hc))) <;> (refine vl ?_; refine KO_nil ?_)))))
      all_goals (repeat' (first | refine K_seq ?_ | refine k_cond rfl ?_ | refine K_skip ?_ | refine K_exit ?_ | refine k_block ?_ | refine K_scope ?_ | refine K_label ?_ | (refine K_draw (id := 5) ?_; (first | refine vl ?_ | refine fB S ?_ | refine fS S rfl rfl ?_ | refine fA ?_); (first | refine lB S rfl rfl ?_ | refine lES2 S rfl rfl ?_ | refine lEB S ?_ | refine lH S ?_); refine mv ?_; (first | refine ixB S ?_ | refine ixS2 S rfl rfl ?_); (first | refine lB S rfl rfl ?_ | refine lES2 S rfl rfl ?_ | refine lEB S ?_ | refine lH S ?_); (first | refine vl ?_ | refine fB S ?_ | refine fS S rfl rfl ?_ | refine fA ?_); (first | refine lB S rfl rfl ?_ | refine lES2 S rfl rfl ?_ | refine lEB S ?_ | refine lH S ?_); refine mv ?_; (first | refine ixB S ?_ | refine ixS2 S rfl rfl ?_); (first | refine lB S rfl rfl ?_ | refine lES2 S rfl rfl ?_ | refine lEB S ?_ | refine lH S ?_))))
      have gi : (v.gs.getD i default).toGu = r.us.getD i default := HR.at_ i2
      have gj : (v.gs.getD j default).toGu = r.us.getD j default := HR.at_ j2
      have ci := chkG_ok (H.chk _ (mem_getD (show i < r.us.length by omega)))
      have cj := chkG_ok (H.chk _ (mem_getD (show j < r.us.length by omega)))
      have t1 : (v.gs.getD i default).tg.length ≤ 4 := by
        show (v.gs.getD i default).toGu.tg.length ≤ 4
        rw [gi]; exact ci.2.2.2.1
      have t2 : (v.gs.getD j default).tg.length ≤ 4 := by
        show (v.gs.getD j default).toGu.tg.length ≤ 4
        rw [gj]; exact cj.2.2.2.1
      have s2 : SS (v.gs.getD j default).tg := by
        show SS (v.gs.getD j default).toGu.tg
        rw [gj]; exact cj.2.2.2.2.ss
      simp only [Int.toNat_natCast]
      (refine KO_fn rfl rfl rfl rfl rfl ((rshared_ok S.wf (v.gs.getD i default) (v.gs.getD j default) ((HR.tg i i2).1.ext w S.ext) ((HR.tg j j2).1.ext w S.ext) t1 t2 s2).mono ?_); rintro u h x) <;> (replace S := S.join1 x; clear x; refine mv ?_; refine KO_nil ?_)
      all_goals (repeat' (first | refine K_seq ?_ | refine k_cond rfl ?_ | refine K_skip ?_ | refine K_exit ?_ | refine k_block ?_ | refine K_scope ?_ | refine K_label ?_ | (refine K_draw (id := 5) ?_; (first | refine vl ?_ | refine fB S ?_ | refine fS S rfl rfl ?_ | refine fA ?_); (first | refine lB S rfl rfl ?_ | refine lES2 S rfl rfl ?_ | refine lEB S ?_ | refine lH S ?_); refine mv ?_; (first | refine ixB S ?_ | refine ixS2 S rfl rfl ?_); (first | refine lB S rfl rfl ?_ | refine lES2 S rfl rfl ?_ | refine lEB S ?_ | refine lH S ?_); (first | refine vl ?_ | refine fB S ?_ | refine fS S rfl rfl ?_ | refine fA ?_); (first | refine lB S rfl rfl ?_ | refine lES2 S rfl rfl ?_ | refine lEB S ?_ | refine lH S ?_); refine mv ?_; (first | refine ixB S ?_ | refine ixS2 S rfl rfl ?_); (first | refine lB S rfl rfl ?_ | refine lES2 S rfl rfl ?_ | refine lEB S ?_ | refine lH S ?_))))
      refine K_ret ⟨_, rfl, ?_⟩
      have hle := List.length_filter_le (keepC (v.gs.getD j default)) (v.gs.getD i default).tg
      refine ⟨_, S.only .here, ?_, Nat.le_trans hle t1⟩
      unfold comF
      rw [i1, j1]
      show (v.gs.getD i default).toGu.tg.filter (fun t => decide (t ∈ (v.gs.getD j default).toGu.tg)) = _
      rw [gi, gj]
    · skip
      all_goals (repeat' (first | refine K_seq ?_ | refine k_cond rfl ?_ | refine K_skip ?_ | refine K_exit ?_ | refine k_block ?_ | refine K_scope ?_ | refine K_label ?_ | (refine K_region (id := 3) ?_; refine mv ?_; (first | refine cT ?_ | refine cF ?_ | (refine cS ?_ ?_ <;> intro hc)) <;> (refine mv ?_; (first | refine off ?_ | refine mv ?_); (first | refine off ?_ | (first | refine cT ?_ | refine cF ?_ | (refine cS ?_ ?_ <;> intro hc))) <;> (refine vl ?_; refine KO_nil ?_))) | (refine K_region (id := 4) ?_; refine mv ?_; refine KO_nil ?_)))
      refine K_ret ⟨_, rfl, ?_⟩
      exact ⟨[], (S.drop.nilS (e := 9) (z := 1) (enc := eS)), by simp [comF, i1, j1], by simp⟩
  · (refine KO_fn rfl rfl rfl rfl rfl ((refAt_ok S.wf v.vg.val v.gs (hrg.ext w S.ext) (by omega) nb).mono ?_); rintro _ h ⟨⟨j, j1, j2, rfl⟩ | ⟨j1, rfl⟩, x⟩) <;> (replace S := S.join0 x; clear x; refine mv ?_; refine KO_nil ?_)
    all_goals (skip)
    all_goals (all_goals (repeat' (first | refine K_seq ?_ | refine k_cond rfl ?_ | refine K_skip ?_ | refine K_exit ?_ | refine k_block ?_ | refine K_scope ?_ | refine K_label ?_ | (refine K_region (id := 2) ?_; (first | refine vl ?_ | refine fB S ?_ | refine fS S rfl rfl ?_ | refine fA ?_); (first | refine lB S rfl rfl ?_ | refine lES2 S rfl rfl ?_ | refine lEB S ?_ | refine lH S ?_); refine mv ?_) | (refine K_region (id := 3) ?_; refine mv ?_; (first | refine cT ?_ | refine cF ?_ | (refine cS ?_ ?_ <;> intro hc)) <;> (refine mv ?_; (first | refine off ?_ | refine mv ?_); (first | refine off ?_ | (first | refine cT ?_ | refine cF ?_ | (refine cS ?_ ?_ <;> intro hc))) <;> (refine vl ?_; refine KO_nil ?_))) | (refine K_region (id := 4) ?_; refine mv ?_; refine KO_nil ?_))))
    all_goals (refine K_ret ⟨_, rfl, ?_⟩)
    all_goals exact ⟨[], (S.drop.nilS (e := 9) (z := 1) (enc := eS)), by simp [comF, i1], by simp⟩
end Go.Proofs.Xx

/-
  The reference's chains: plain part.
-/
namespace Go.Proofs.Xx
open Go Go.Proofs
set_option linter.unusedSimpArgs false
set_option linter.unusedVariables false
set_option linter.unusedSectionVars false

theorem Pth.inv {r : Rl} {x y : List UInt8} {Q : List (List UInt8)} (h : Pth r x Q y) : (Q = [x] ∧ x = y) ∨ ∃ w Q', Q = x :: Q' ∧ spk r x w ∧ Pth r w Q' y := by
  induction h with
  | one => exact .inl ⟨rfl, rfl⟩
  | snoc h b ih =>
    rename_i Q w z
    rcases ih with ⟨rfl, rfl⟩ | ⟨u, Q', rfl, a, g⟩
    · exact .inr ⟨z, [z], rfl, b, .one⟩
    · exact .inr ⟨u, Q' ++ [z], rfl, a, g.snoc b⟩
theorem lxl.asym {P Q : List (List UInt8)} (h : lxl P Q) (g : lxl Q P) : False := by
  obtain ⟨k, h1, h2, h3, h4⟩ := h.trans g
  exact sLt_irr _ h4
theorem ChainOk.uniq {r : Rl} {x y : List UInt8} {P P' : List (List UInt8)} (h : ChainOk r x y P) (g : ChainOk r x y P') : P = P' := by
  have e := Nat.le_antisymm (h.sh _ g.pth) (g.sh _ h.pth)
  rcases h.lx _ g.pth e with q | q
  · exact q
  · rcases g.lx _ h.pth e.symm with q2 | q2
    · exact q2.symm
    · exact absurd (q.asym q2) id
theorem lxl.cons {P Q : List (List UInt8)} {x : List UInt8} (h : lxl P Q) : lxl (x :: P) (x :: Q) := by
  obtain ⟨k, h1, h2, h3, h4⟩ := h
  refine ⟨k + 1, by simp; omega, by simp; omega, fun j hj => ?_, h4⟩
  cases j with
  | zero => rfl
  | succ j => exact h3 j (by omega)
theorem ChainOk.one (r : Rl) (y : List UInt8) : ChainOk r y y [y] := by
  refine ⟨.one, fun Q hq => hq.pos, fun Q hq e => ?_⟩
  rcases hq.inv with ⟨q, -⟩ | ⟨w, Q', q, -, g⟩
  · exact .inl q.symm
  · have := g.pos
    rw [q] at e
    simp at e
    rw [e] at this; simp at this
theorem ChainOk.cons {r : Rl} {x z y : List UInt8} {T : List (List UInt8)} (h : ChainOk r z y T) (a : spk r x z) (hs : ∀ Q, Pth r x Q y → T.length + 1 ≤ Q.length) (hl : ∀ w Q', spk r x w → Pth r w Q' y → Q'.length = T.length → ¬ sLt w z) : ChainOk r x y (x :: T) := by
  refine ⟨h.pth.cons a, fun Q hq => by simpa using hs Q hq, fun Q hq e => ?_⟩
  have hT := h.pth.pos
  rcases hq.inv with ⟨q, -⟩ | ⟨w, Q', q, b, g⟩
  · rw [q] at e; simp at e; rw [e] at hT; simp at hT
  · subst q
    simp at e
    rcases sLe_of (hl w Q' b g e.symm) with q | q
    · subst q
      rcases h.lx _ g e with q | q
      · exact .inl (by rw [q])
      · exact .inr q.cons
    · refine .inr ⟨1, by simp; exact hT, by simp; omega, fun j hj => ?_, ?_⟩
      · obtain rfl : j = 0 := by omega
        rfl
      · show sLt (T.getD 0 default) (Q'.getD 0 default)
        rw [h.pth.head, g.head]; exact q
/-- How far each one is from y. -/
structure FI (r : Rl) (ns : List (List UInt8)) (y : List UInt8) (far : List Int) : Prop where
  len : far.length = ns.length
  rng : ∀ i, i < far.length → 0 ≤ far.getD i default ∧ far.getD i default ≤ 1000
  z : ∀ i, i < far.length → (far.getD i default = 0 ↔ ns.getD i default = y)
  path : ∀ i, i < far.length → far.getD i default < 1000 → ∃ Q, Pth r (ns.getD i default) Q y ∧ (Q.length : Int) = far.getD i default + 1
def FC (r : Rl) (ns : List (List UInt8)) (far : List Int) : Prop := ∀ i k, i < ns.length → k < ns.length → spk r (ns.getD i default) (ns.getD k default) → far.getD i default ≤ far.getD k default + 1
theorem FI.set {r : Rl} {ns : List (List UInt8)} {y : List UInt8} {far : List Int} (F : FI r ns y far) {i k : Nat} (hi : i < far.length) (hk : k < far.length) (h : far.getD k default + 1 < far.getD i default) (a : spk r (ns.getD i default) (ns.getD k default)) : FI r ns y (far.set i (far.getD k default + 1)) := by
  have hr1 := F.rng i hi
  have hr2 := F.rng k hk
  have hg : ∀ j, (far.set i (far.getD k default + 1)).getD j default = if j = i then far.getD k default + 1 else far.getD j default := fun j => getD_set _ _ hi j
  refine ⟨by simp; exact F.len, fun j hj => ?_, fun j hj => ?_, fun j hj hlt => ?_⟩
  · simp at hj
    rw [hg]; split
    · omega
    · exact F.rng j hj
  · simp at hj
    rw [hg]; split
    · rename_i e
      subst e
      constructor
      · intro q; omega
      · intro q
        have := (F.z j hi).2 q
        omega
    · exact F.z j hj
  · simp at hj
    rw [hg] at hlt ⊢
    split
    · rename_i e
      subst e
      obtain ⟨Q, q1, q2⟩ := F.path k hk (by omega)
      exact ⟨_, q1.cons a, by rw [List.length_cons]; omega⟩
    · rename_i e
      rw [if_neg e] at hlt
      exact F.path j hj hlt
theorem FI.short {r : Rl} {ns : List (List UInt8)} {y : List UInt8} {far : List Int} (F : FI r ns y far) (C : FC r ns far) (hns : ∀ x, gat r.us x ≠ none → x ∈ ns) : ∀ (n : Nat) (Q : List (List UInt8)) (i : Nat), Q.length = n → i < far.length → Pth r (ns.getD i default) Q y → far.getD i default + 1 ≤ (Q.length : Int) := by
  intro n
  induction n using Nat.strongRecOn with
  | _ n ih =>
    intro Q i hn hi hq
    rcases hq.inv with ⟨q, e⟩ | ⟨w, Q', q, a, g⟩
    · have := (F.z i hi).2 e
      rw [q]; simp only [List.length_cons, List.length_nil]; omega
    · obtain ⟨k, k1, k2⟩ := mem_iff_getD.1 (hns w a.kn.2)
      rw [← k2] at a g
      have hk : k < far.length := by rw [F.len]; exact k1
      have h1 := ih Q'.length (by rw [← hn, q]; simp) Q' k rfl hk g
      have h2 := C i k (by rw [← F.len]; exact hi) k1 a
      rw [q]; simp only [List.length_cons]; omega
theorem FI.down {r : Rl} {ns : List (List UInt8)} {y : List UInt8} {far : List Int} (F : FI r ns y far) (C : FC r ns far) (hns : ∀ x, gat r.us x ≠ none → x ∈ ns) {i : Nat} (hi : i < far.length) (h : far.getD i default < 1000) (h0 : 0 < far.getD i default) : ∃ k, k < far.length ∧ far.getD k default = far.getD i default - 1 ∧ spk r (ns.getD i default) (ns.getD k default) := by
  obtain ⟨Q, q1, q2⟩ := F.path i hi h
  rcases q1.inv with ⟨q, e⟩ | ⟨w, Q', q, a, g⟩
  · have := (F.z i hi).2 e
    omega
  · obtain ⟨k, k1, k2⟩ := mem_iff_getD.1 (hns w a.kn.2)
    rw [← k2] at a g
    have hk : k < far.length := by rw [F.len]; exact k1
    have h1 := F.short C hns _ Q' k rfl hk g
    have h2 := C i k (by rw [← F.len]; exact hi) k1 a
    rw [q] at q2
    simp only [List.length_cons] at q2
    exact ⟨k, hk, by omega, a⟩
theorem FI.all {r : Rl} {ns : List (List UInt8)} {y : List UInt8} {far : List Int} (F : FI r ns y far) (C : FC r ns far) (hns : ∀ x, gat r.us x ≠ none → x ∈ ns) : ∀ (d i : Nat), i < far.length → far.getD i default < 1000 → far.getD i default = d → ∀ e, e ≤ d → ∃ k, k < far.length ∧ far.getD k default = (e : Int)
  | 0, i, hi, h, hd, e, he => ⟨i, hi, by rw [hd]; omega⟩
  | d + 1, i, hi, h, hd, e, he => by
    rcases Nat.eq_or_lt_of_le he with q | q
    · exact ⟨i, hi, by rw [hd, q]⟩
    · obtain ⟨k, k1, k2, -⟩ := F.down C hns hi h (by omega)
      exact FI.all F C hns d k k1 (by omega) (by omega) e (by omega)
theorem FI.le {r : Rl} {ns : List (List UInt8)} {y : List UInt8} {far : List Int} (F : FI r ns y far) (C : FC r ns far) (hns : ∀ x, gat r.us x ≠ none → x ∈ ns) (hl : ns.length ≤ 64) {i : Nat} (hi : i < far.length) (h : far.getD i default < 1000) : far.getD i default ≤ 63 := by
  have hr := F.rng i hi
  have hall := F.all C hns (far.getD i default).toNat i hi h (by omega)
  have := nodup_leM (List.nodup_range (n := (far.getD i default).toNat + 1)) (m := far.map Int.toNat) fun e he => by
    rw [List.mem_range] at he
    obtain ⟨k, k1, k2⟩ := hall e (by omega)
    refine List.mem_map.2 ⟨_, mem_getD k1, ?_⟩
    rw [k2]; rfl
  have hl2 := F.len
  rw [List.length_range, List.length_map] at this
  omega
theorem FI.far_ {r : Rl} {ns : List (List UInt8)} {y : List UInt8} {far : List Int} (F : FI r ns y far) (C : FC r ns far) (hns : ∀ x, gat r.us x ≠ none → x ∈ ns) (hl : ns.length ≤ 64) : ∀ (n : Nat) (Q : List (List UInt8)) (i : Nat), Q.length = n → i < far.length → Pth r (ns.getD i default) Q y → far.getD i default < 1000 := by
  intro n
  induction n using Nat.strongRecOn with
  | _ n ih =>
    intro Q i hn hi hq
    rcases hq.inv with ⟨q, e⟩ | ⟨w, Q', q, a, g⟩
    · have := (F.z i hi).2 e
      omega
    · obtain ⟨k, k1, k2⟩ := mem_iff_getD.1 (hns w a.kn.2)
      rw [← k2] at a g
      have hk : k < far.length := by rw [F.len]; exact k1
      have h1 := ih Q'.length (by rw [← hn, q]; simp) Q' k rfl hk g
      have h2 := F.le C hns hl hk h1
      have h3 := C i k (by rw [← F.len]; exact hi) k1 a
      omega
theorem FI.app {r : Rl} {ns : List (List UInt8)} {y : List UInt8} {far : List Int} {i : Nat} (F : FI r (ns.take i) y far) (hi : i < ns.length) (hl : (ns.take i).length = i) {x : Int} (hx : (x = 0 ∧ ns.getD i default = y) ∨ (x = 1000 ∧ ¬ ns.getD i default = y)) : FI r (ns.take (i + 1)) y (far ++ [x]) := by
  have hf := F.len
  rw [hl] at hf
  have e1 : ∀ j, j < i → (ns.take (i + 1)).getD j default = (ns.take i).getD j default := fun j hj => by
    rw [getD_take (by omega), getD_take hj]
  have e2 : (ns.take (i + 1)).getD i default = ns.getD i default := getD_take (by omega)
  have e3 : (far ++ [x]).getD i default = x := by rw [gA2 (by omega), hf, Nat.sub_self]; rfl
  have hlen : (far ++ [x]).length = i + 1 := by simp; exact hf
  refine ⟨by rw [hlen, List.length_take]; omega, fun j hj => ?_, fun j hj => ?_, fun j hj h => ?_⟩
  · rw [hlen] at hj
    rcases Nat.lt_or_ge j i with q | q
    · rw [gA1 (by omega)]; exact F.rng j (by omega)
    · obtain rfl : j = i := by omega
      rw [e3]; omega
  · rw [hlen] at hj
    rcases Nat.lt_or_ge j i with q | q
    · rw [gA1 (by omega), e1 j q]; exact F.z j (by omega)
    · obtain rfl : j = i := by omega
      rw [e3, e2]
      rcases hx with ⟨h1, h2⟩ | ⟨h1, h2⟩
      · exact ⟨fun _ => h2, fun _ => h1⟩
      · exact ⟨fun q => by omega, fun q => absurd q h2⟩
  · rw [hlen] at hj
    rcases Nat.lt_or_ge j i with q | q
    · rw [gA1 (by omega)] at h ⊢
      rw [e1 j q]; exact F.path j (by omega) h
    · obtain rfl : j = i := by omega
      rw [e3] at h ⊢
      rw [e2]
      rcases hx with ⟨h1, h2⟩ | ⟨h1, h2⟩
      · exact ⟨[ns.getD j default], h2 ▸ .one, by rw [h1]; rfl⟩
      · omega
def sumN (l : List Int) : Nat := (l.map Int.toNat).sum
theorem sumN_set : ∀ {l : List Int} {i : Nat} {x : Int}, i < l.length → x.toNat < (l.getD i default).toNat → sumN (l.set i x) < sumN l
  | a :: l, 0, x, h, hx => by
    have hx : x.toNat < a.toNat := hx
    simp [sumN]; omega
  | a :: l, i + 1, x, h, hx => by
    have := sumN_set (l := l) (i := i) (x := x) (by simp at h; exact h) hx
    simp [sumN] at this ⊢; exact this
/-- Step by step the least name that is one nearer. -/
theorem FI.step {r : Rl} {ns : List (List UInt8)} (hs : SS ns) {y : List UInt8} {far : List Int} (F : FI r ns y far) (C : FC r ns far) (hns : ∀ x, gat r.us x ≠ none → x ∈ ns) {i k : Nat} (hi : i < far.length) (hk : k < far.length) (h : far.getD i default < 1000) (e : far.getD k default = far.getD i default - 1) (a : spk r (ns.getD i default) (ns.getD k default)) (hl : ∀ j, j < k → ¬ (far.getD j default = far.getD i default - 1 ∧ spk r (ns.getD i default) (ns.getD j default))) {T : List (List UInt8)} (c : ChainOk r (ns.getD k default) y T) : ChainOk r (ns.getD i default) y (ns.getD i default :: T) := by
  have hT : (T.length : Int) = far.getD i default := by
    have h1 := F.short C hns _ T k rfl hk c.pth
    obtain ⟨Q, q1, q2⟩ := F.path k hk (by omega)
    have h2 := c.sh Q q1
    omega
  refine c.cons a (fun Q hq => ?_) fun w Q' b g e2 => ?_
  · have := F.short C hns _ Q i rfl hi hq
    omega
  · obtain ⟨j, j1, j2⟩ := mem_iff_getD.1 (hns w b.kn.2)
    have hj : j < far.length := by rw [F.len]; exact j1
    rw [← j2] at b g ⊢
    have h1 := F.short C hns _ Q' j rfl hj g
    have h2 := C i j (by rw [← F.len]; exact hi) j1 b
    rcases Nat.lt_or_ge j k with q | q
    · exact absurd ⟨by omega, b⟩ (hl j q)
    · exact hs.le q (by rw [← F.len]; exact hj)
end Go.Proofs.Xx

/-
  The reference's chains.
-/
namespace Go.Proofs.Xx
open Go Go.Proofs
set_option linter.unusedSimpArgs false
set_option linter.unusedVariables false
set_option linter.unusedSectionVars false
set_option maxRecDepth 100000
set_option maxHeartbeats 4000000

variable [Flag]
theorem rchain_ok {h0 : AH} (w : WfH h0) (v : RlV) (r : Rl) (HR : RlOk h0 v r) (H : RO r) (na nb : List UInt8) : Fn Tryz.prog Xh 86 [v.val, str na, str nb] h0 (fun u h' => (∃ v P, u = .tuple #[v, .bool true] ∧ Hs h0 h' [.sl v 9 1 eS P] ∧ gat r.us na ≠ none ∧ gat r.us nb ≠ none ∧ ChainOk r na nb P ∧ P.length ≤ 64) ∨ (u = .tuple #[.slice none 0 0, .bool false] ∧ (gat r.us na ≠ none → gat r.us nb ≠ none → ∀ Q, ¬ Pth r na Q nb) ∧ Hs h0 h' [])) := by
  have S := Hs.start w
  have h64 := H.l64
  unfold RlV.val
  refine Fn_K rfl Tryz.func86 rfl rfl ?_
  all_goals (repeat' (first | refine K_seq ?_ | refine k_cond rfl ?_ | refine K_skip ?_ | refine K_exit ?_ | refine k_block ?_ | refine K_scope ?_ | refine K_label ?_ | (refine K_region (id := 0) ?_; (refine bx S ?_; clear S; intro b h S); refine mv ?_; refine mv ?_; refine KO_nil ?_)))
  obtain ⟨b3, hnm⟩ : ∃ x, x = b := ⟨_, rfl⟩; subst hnm
  replace S : Hs h0 h (.blk b3 [v.vg.val, v.vt.val] 32 :: []) := S
  all_goals (repeat' (first | refine K_seq ?_ | refine k_cond rfl ?_ | refine K_skip ?_ | refine K_exit ?_ | refine k_block ?_ | refine K_scope ?_ | refine K_label ?_ | (refine K_region (id := 1) ?_; (first | refine lB S rfl rfl ?_ | refine lES2 S rfl rfl ?_ | refine lEB S ?_ | refine lH S ?_))))
  (refine KO_fn rfl rfl rfl rfl rfl ((rnames_ok S.wf v r (HR.ext w S.ext) H).mono ?_); rintro un h ⟨ns, x, n1, n2, n3⟩) <;> (replace S := S.join1 x; clear x; refine mv ?_; refine KO_nil ?_)
  have hns : ∀ x, gat r.us x ≠ none → x ∈ ns := fun x hx => (n2 x).2 hx
  have hnl : ns.length ≤ 64 := by omega
  have S := S.nilS (e := 3) (z := 1) (enc := eI)
  all_goals (repeat' (first | refine K_seq ?_ | refine k_cond rfl ?_ | refine K_skip ?_ | refine K_exit ?_ | refine k_block ?_ | refine K_scope ?_ | refine K_label ?_ | (refine K_region (id := 2) ?_; refine mv ?_; refine KO_nil ?_) | (refine K_region (id := 3) ?_; refine mv ?_; refine KO_nil ?_)))
  refine k_loop (σ := Nat × Value × List Int) (fun (i, v9, far) h' => Hs h0 h' [.sl v9 3 1 eI far, .sl un 9 1 eS ns, .blk b3 [v.vg.val, v.vt.val] 32] ∧ i ≤ ns.length ∧ FI r (ns.take i) nb far) (fun (i, v9, far) => ns.length - i) (fun (i, v9, far) => [(1, str na), (2, str nb), (3, .pointer (some ⟨b3, 0, none⟩)), (8, un), (9, v9), (10, .int .i64 i)]) (0, .slice none 0 0, []) (by repeat (first | exact Ks.le_nil _ | refine Ks.le_cons rfl ?_ | refine Ks.le_int ?_)) ?_ ?_
  · exact ⟨S, Nat.zero_le _, ⟨rfl, fun i hi => absurd hi (Nat.not_lt_zero _), fun i hi => absurd hi (Nat.not_lt_zero _), fun i hi => absurd hi (Nat.not_lt_zero _)⟩⟩
  clear S
  rintro ⟨i, v9, far⟩ h ⟨S, g1, F⟩
  have hfl := F.len
  rw [List.length_take, Nat.min_eq_left g1] at hfl
  all_goals (repeat' (first | refine K_seq ?_ | refine k_cond rfl ?_ | refine K_skip ?_ | refine K_exit ?_ | refine K_scope ?_ | refine K_label ?_ | (refine K_region (id := 4) ?_; refine mv ?_; refine mv ?_; (first | refine lnB S ?_ | refine lnS S rfl rfl ?_); (first | refine cT ?_ | refine cF ?_ | (refine cS ?_ ?_ <;> intro hc)) <;> (refine KO_nil ?_))))
  · have hil : i < ns.length := by omega
    (repeat (refine K_seq ?_)); first | refine K_join1 (σ := Value × List Int) (fun (v9, far) h' => Hs h0 h' [.sl v9 3 1 eI far, .sl un 9 1 eS ns, .blk b3 [v.vg.val, v.vt.val] 32] ∧ FI r (ns.take (i + 1)) nb far) (fun (v9, far) => [(1, str na), (2, str nb), (3, .pointer (some ⟨b3, 0, none⟩)), (8, un), (9, v9), (10, .int .i64 i)]) ?_ ?_ | refine K_cut (σ := Value × List Int) (fun (v9, far) h' => Hs h0 h' [.sl v9 3 1 eI far, .sl un 9 1 eS ns, .blk b3 [v.vg.val, v.vt.val] 32] ∧ FI r (ns.take (i + 1)) nb far) (fun (v9, far) => [(1, str na), (2, str nb), (3, .pointer (some ⟨b3, 0, none⟩)), (8, un), (9, v9), (10, .int .i64 i)]) ?_ ?_
    · all_goals (repeat' (first | refine K_seq ?_ | refine k_cond rfl ?_ | refine K_skip ?_ | refine K_exit ?_ | refine k_block ?_ | refine K_scope ?_ | refine K_label ?_ | (refine K_region (id := 6) ?_; refine mv ?_; refine mv ?_; (first | refine ixB S ?_ | refine ixS2 S rfl rfl ?_); (first | refine lB S rfl rfl ?_ | refine lES2 S rfl rfl ?_ | refine lEB S ?_ | refine lH S ?_); refine mv ?_; (refine tS ?_ ?_ <;> intro hc) <;> (refine KO_nil ?_)) | (refine K_region (id := 7) ?_; refine mv ?_; (refine one 1 S ?_; clear S; intro u h S)) | (refine K_region (id := 8) ?_; refine mv ?_; (refine one 1 S ?_; clear S; intro u h S))))
      all_goals (try simp only [Int.toNat_natCast] at *)
      · refine app (y0 := (0 : Int)) S rfl rfl ?_; clear S; intro v9 h S; (refine mv ?_; refine KO_nil ?_)
        exact ⟨(v9, far ++ [0]), ⟨S.pick, F.app hil (by rw [List.length_take, Nat.min_eq_left g1]) (.inl ⟨rfl, hc⟩)⟩, ((by repeat (first | exact Ks.le_nil _ | refine Ks.le_cons rfl ?_ | refine Ks.le_int ?_)))⟩
      · refine app (y0 := (1000 : Int)) S rfl rfl ?_; clear S; intro v9 h S; (refine mv ?_; refine KO_nil ?_)
        exact ⟨(v9, far ++ [1000]), ⟨S.pick, F.app hil (by rw [List.length_take, Nat.min_eq_left g1]) (.inr ⟨rfl, hc⟩)⟩, ((by repeat (first | exact Ks.le_nil _ | refine Ks.le_cons rfl ?_ | refine Ks.le_int ?_)))⟩
    · clear S F hfl
      rintro ⟨v9, far⟩ h ⟨S, F⟩
      skip
      all_goals (repeat' (first | refine K_seq ?_ | refine k_cond rfl ?_ | refine K_skip ?_ | refine K_exit ?_ | refine k_block ?_ | refine K_scope ?_ | refine K_label ?_ | (refine K_region (id := 5) ?_; refine mv ?_; (first | refine ad ?_ | refine vl ?_); refine mv ?_; refine KO_nil ?_)))
      refine ⟨(i + 1, v9, far), ?_, ?_, (by repeat (first | exact Ks.le_nil _ | refine Ks.le_cons rfl ?_ | refine Ks.le_int ?_))⟩
      · show ns.length - (i + 1) < ns.length - i; omega
      · exact ⟨S, by (try dsimp only); omega, F⟩
  · obtain rfl : i = ns.length := by omega
    rw [List.take_length] at F
    clear hfl
    skip
    all_goals (repeat' (first | refine K_seq ?_ | refine k_cond rfl ?_ | refine K_skip ?_ | refine K_exit ?_ | refine k_block ?_ | refine K_scope ?_ | refine K_label ?_ | (refine K_region (id := 9) ?_; refine mv ?_; refine KO_nil ?_)))
    refine k_loop (σ := List Int × Bool) (fun (far, ch) h' => Hs h0 h' [.sl v9 3 1 eI far, .sl un 9 1 eS ns, .blk b3 [v.vg.val, v.vt.val] 32] ∧ FI r ns nb far ∧ (ch = false → FC r ns far)) (fun (far, ch) => 2 * sumN far + (if ch then 1 else 0)) (fun (far, ch) => [(1, str na), (2, str nb), (3, .pointer (some ⟨b3, 0, none⟩)), (8, un), (9, v9), (11, .bool ch)]) (far, true) (by repeat (first | exact Ks.le_nil _ | refine Ks.le_cons rfl ?_ | refine Ks.le_int ?_)) ?_ ?_
    · exact ⟨S, F, fun q => by cases q⟩
    clear S F far
    rintro ⟨far, ch⟩ h ⟨S, F, C⟩
    have hfl := F.len
    cases ch
    · replace C := C rfl
      all_goals (repeat' (first | refine K_seq ?_ | refine k_cond rfl ?_ | refine K_skip ?_ | refine K_exit ?_ | refine k_block ?_ | refine K_scope ?_ | refine K_label ?_ | (refine K_region (id := 10) ?_; refine mv ?_; refine KO_nil ?_) | (refine K_region (id := 21) ?_; refine mv ?_; refine KO_nil ?_) | (refine K_region (id := 22) ?_; refine mv ?_; refine KO_nil ?_)))
      have hnot : ∀ i, i < far.length → 1000 ≤ far.getD i default → ∀ Q, ¬ Pth r (ns.getD i default) Q nb := fun i hi h Q hq => by
        have := F.far_ C hns hnl _ Q i rfl hi hq
        omega
      refine k_loop (σ := Nat × Int) (fun (i, at_) h' => Hs h0 h' [.sl v9 3 1 eI far, .sl un 9 1 eS ns, .blk b3 [v.vg.val, v.vt.val] 32] ∧ i ≤ ns.length ∧ ((at_ = -1 ∧ ∀ j, j < i → ns.getD j default ≠ na) ∨ ∃ j : Nat, j < i ∧ ns.getD j default = na ∧ at_ = j)) (fun (i, at_) => ns.length - i) (fun (i, at_) => [(1, str na), (2, str nb), (3, .pointer (some ⟨b3, 0, none⟩)), (8, un), (9, v9), (14, .int .i64 at_), (15, .int .i64 i)]) (0, -1) (by repeat (first | exact Ks.le_nil _ | refine Ks.le_cons rfl ?_ | refine Ks.le_int ?_)) ?_ ?_
      · exact ⟨S, Nat.zero_le _, .inl ⟨rfl, fun j hj => absurd hj (Nat.not_lt_zero _)⟩⟩
      clear S
      rintro ⟨i, at_⟩ h ⟨S, g1, g2⟩
      all_goals (repeat' (first | refine K_seq ?_ | refine k_cond rfl ?_ | refine K_skip ?_ | refine K_exit ?_ | refine K_scope ?_ | refine K_label ?_ | (refine K_region (id := 23) ?_; refine mv ?_; refine mv ?_; (first | refine lnB S ?_ | refine lnS S rfl rfl ?_); (first | refine cT ?_ | refine cF ?_ | (refine cS ?_ ?_ <;> intro hc)) <;> (refine KO_nil ?_))))
      · have hil : i < ns.length := by omega
        all_goals (repeat' (first | refine K_seq ?_ | refine k_cond rfl ?_ | refine K_skip ?_ | refine K_exit ?_ | refine k_block ?_ | refine K_scope ?_ | refine K_label ?_ | (refine K_region (id := 25) ?_; refine mv ?_; refine mv ?_; (first | refine ixB S ?_ | refine ixS2 S rfl rfl ?_); (first | refine lB S rfl rfl ?_ | refine lES2 S rfl rfl ?_ | refine lEB S ?_ | refine lH S ?_); refine mv ?_; (refine tS ?_ ?_ <;> intro hc) <;> (refine KO_nil ?_))))
        all_goals (try simp only [Int.toNat_natCast] at *)
        · all_goals (repeat' (first | refine K_seq ?_ | refine k_cond rfl ?_ | refine K_skip ?_ | refine K_exit ?_ | refine k_block ?_ | refine K_scope ?_ | refine K_label ?_ | (refine K_region (id := 24) ?_; refine mv ?_; (first | refine ad ?_ | refine vl ?_); refine mv ?_; refine KO_nil ?_) | (refine K_region (id := 26) ?_; refine mv ?_; refine mv ?_; refine KO_nil ?_)))
          refine ⟨(i + 1, (i : Int)), ?_, ?_, (by repeat (first | exact Ks.le_nil _ | refine Ks.le_cons rfl ?_ | refine Ks.le_int ?_))⟩
          · show ns.length - (i + 1) < ns.length - i; omega
          · exact ⟨S, by (try dsimp only); omega, .inr ⟨i, by (try dsimp only); omega, hc, rfl⟩⟩
        · skip
          all_goals (repeat' (first | refine K_seq ?_ | refine k_cond rfl ?_ | refine K_skip ?_ | refine K_exit ?_ | refine k_block ?_ | refine K_scope ?_ | refine K_label ?_ | (refine K_region (id := 24) ?_; refine mv ?_; (first | refine ad ?_ | refine vl ?_); refine mv ?_; refine KO_nil ?_)))
          refine ⟨(i + 1, at_), ?_, ?_, (by repeat (first | exact Ks.le_nil _ | refine Ks.le_cons rfl ?_ | refine Ks.le_int ?_))⟩
          · show ns.length - (i + 1) < ns.length - i; omega
          · refine ⟨S, by (try dsimp only); omega, ?_⟩
            rcases g2 with ⟨e1, e2⟩ | ⟨j, j1, j2, j3⟩
            · exact .inl ⟨e1, nxtD e2 hc⟩
            · exact .inr ⟨j, by (try dsimp only); omega, j2, j3⟩
      · obtain rfl : i = ns.length := by omega
        skip
        rcases g2 with ⟨rfl, e2⟩ | ⟨j, j1, j2, rfl⟩
        · all_goals (repeat' (first | refine K_seq ?_ | refine k_cond rfl ?_ | refine K_skip ?_ | refine K_exit ?_ | refine k_block ?_ | refine K_scope ?_ | refine K_label ?_ | (refine K_region (id := 27) ?_; refine mv ?_; (first | refine cT ?_ | refine cF ?_ | (refine cS ?_ ?_ <;> intro hc)) <;> (refine mv ?_; (first | refine off ?_ | refine mv ?_); (first | refine off ?_ | refine mv ?_); (first | refine off ?_ | (first | refine ixB S ?_ | refine ixS2 S rfl rfl ?_)); (first | refine off ?_ | (first | refine lB S rfl rfl ?_ | refine lES2 S rfl rfl ?_ | refine lEB S ?_ | refine lH S ?_)); (first | refine off ?_ | (first | refine cT ?_ | refine cF ?_ | (refine cS ?_ ?_ <;> intro hc))) <;> (refine vl ?_; refine KO_nil ?_))) | (refine K_region (id := 28) ?_; refine mv ?_; refine mv ?_; refine KO_nil ?_)))
          refine K_ret ⟨_, rfl, ?_⟩
          refine .inr ⟨rfl, fun q => ?_, S.drop⟩
          obtain ⟨j, j1, j2⟩ := mem_iff_getD.1 (hns _ q)
          exact absurd j2 (e2 j j1)
        · have hr := F.rng j (by omega)
          all_goals (repeat' (first | refine K_seq ?_ | refine k_cond rfl ?_ | refine K_skip ?_ | refine K_exit ?_ | refine k_block ?_ | refine K_scope ?_ | refine K_label ?_ | (refine K_region (id := 27) ?_; refine mv ?_; (first | refine cT ?_ | refine cF ?_ | (refine cS ?_ ?_ <;> intro hc)) <;> (refine mv ?_; (first | refine off ?_ | refine mv ?_); (first | refine off ?_ | refine mv ?_); (first | refine off ?_ | (first | refine ixB S ?_ | refine ixS2 S rfl rfl ?_)); (first | refine off ?_ | (first | refine lB S rfl rfl ?_ | refine lES2 S rfl rfl ?_ | refine lEB S ?_ | refine lH S ?_)); (first | refine off ?_ | (first | refine cT ?_ | refine cF ?_ | (refine cS ?_ ?_ <;> intro hc))) <;> (refine vl ?_; refine KO_nil ?_))) | (refine K_region (id := 28) ?_; refine mv ?_; refine mv ?_; refine KO_nil ?_)))
          all_goals (try simp only [Int.toNat_natCast] at *)
          · refine K_ret ⟨_, rfl, ?_⟩
            refine .inr ⟨rfl, fun _ _ Q => ?_, S.drop⟩
            rw [← j2]; exact hnot j (by omega) hc Q
          · have hlt : far.getD j default < 1000 := by omega
            have hj63 := F.le C hns hnl (by omega) hlt
            skip
            all_goals (repeat' (first | refine K_seq ?_ | refine k_cond rfl ?_ | refine K_skip ?_ | refine K_exit ?_ | refine k_block ?_ | refine K_scope ?_ | refine K_label ?_ | (refine K_region (id := 29) ?_; refine mv ?_; (refine one 1 S ?_; clear S; intro u h S); refine mv ?_; refine KO_nil ?_)))
            have S := S.one_ (enc := eS) (x := na)
            refine k_loop (σ := Nat × Value × List (List UInt8)) (fun (a, v16, pre) h' => Hs h0 h' [.sl v16 9 1 eS (pre ++ [ns.getD a default]), .sl v9 3 1 eI far, .sl un 9 1 eS ns, .blk b3 [v.vg.val, v.vt.val] 32] ∧ a < ns.length ∧ far.getD a default < 1000 ∧ (pre.length : Int) + far.getD a default ≤ 63 ∧ (∀ T, ChainOk r (ns.getD a default) nb T → ChainOk r na nb (pre ++ T))) (fun (a, _, _) => (far.getD a default).toNat) (fun (a, v16, pre) => [(3, .pointer (some ⟨b3, 0, none⟩)), (8, un), (9, v9), (14, .int .i64 a), (16, v16)]) (j, u, []) (by repeat (first | exact Ks.le_nil _ | refine Ks.le_cons rfl ?_ | refine Ks.le_int ?_)) ?_ ?_
            · exact ⟨by rw [j2]; exact S, j1, hlt, by show ((0 : Nat) : Int) + far.getD j default ≤ 63; omega, fun T c => by rw [List.nil_append, ← j2]; exact c⟩
            clear S
            rintro ⟨a, v16, pre⟩ h ⟨S, a1, a2, a3, a4⟩
            have hra : 0 ≤ far.getD (a : Int).toNat default ∧ far.getD (a : Int).toNat default ≤ 1000 := F.rng a (by omega)
            all_goals (repeat' (first | refine K_seq ?_ | refine k_cond rfl ?_ | refine K_skip ?_ | refine K_exit ?_ | refine k_block ?_ | refine K_scope ?_ | refine K_label ?_ | (refine K_region (id := 30) ?_; refine mv ?_; refine mv ?_; (first | refine ixB S ?_ | refine ixS2 S rfl rfl ?_); (first | refine lB S rfl rfl ?_ | refine lES2 S rfl rfl ?_ | refine lEB S ?_ | refine lH S ?_); (first | refine cT ?_ | refine cF ?_ | (refine cS ?_ ?_ <;> intro hc)) <;> (refine KO_nil ?_))))
            all_goals (try simp only [Int.toNat_natCast] at *)
            · obtain ⟨ks, ks1, ks2, ks3⟩ := F.down C hns (i := a) (by omega) a2 (by omega)
              all_goals (repeat' (first | refine K_seq ?_ | refine k_cond rfl ?_ | refine K_skip ?_ | refine K_exit ?_ | refine k_block ?_ | refine K_scope ?_ | refine K_label ?_ | (refine K_region (id := 31) ?_; refine mv ?_; refine KO_nil ?_)))
              refine k_loop (σ := Nat) (fun k h' => Hs h0 h' [.sl v16 9 1 eS (pre ++ [ns.getD a default]), .sl v9 3 1 eI far, .sl un 9 1 eS ns, .blk b3 [v.vg.val, v.vt.val] 32] ∧ k ≤ ks ∧ (∀ j, j < k → ¬ (far.getD j default = far.getD a default - 1 ∧ spk r (ns.getD a default) (ns.getD j default)))) (fun k => ks + 1 - k) (fun k => [(3, .pointer (some ⟨b3, 0, none⟩)), (8, un), (9, v9), (14, .int .i64 a), (16, v16), (17, .int .i64 k)]) 0 (by repeat (first | exact Ks.le_nil _ | refine Ks.le_cons rfl ?_ | refine Ks.le_int ?_)) ?_ ?_
              · exact ⟨S, Nat.zero_le _, fun j hj => absurd hj (Nat.not_lt_zero _)⟩
              clear S
              rintro k h ⟨S, k1, k2⟩
              have hkl : k < far.length := by omega
              have hnx : ¬ (far.getD k default = far.getD a default - 1 ∧ spk r (ns.getD a default) (ns.getD k default)) → k + 1 ≤ ks := fun q => by
                rcases Nat.eq_or_lt_of_le k1 with e | e
                · exact absurd ⟨e ▸ ks2, e ▸ ks3⟩ q
                · exact e
              have hra2 : 0 ≤ far.getD (a : Int).toNat default ∧ far.getD (a : Int).toNat default ≤ 1000 := F.rng a (by omega)
              have hrk : 0 ≤ far.getD (k : Int).toNat default ∧ far.getD (k : Int).toNat default ≤ 1000 := F.rng k hkl
              all_goals (repeat' (first | refine K_seq ?_ | refine k_cond rfl ?_ | refine K_skip ?_ | refine K_exit ?_ | refine k_block ?_ | refine K_scope ?_ | refine K_label ?_ | (refine K_draw (id := 32) ?_; refine mv ?_; refine mv ?_; (first | refine ixB S ?_ | refine ixS2 S rfl rfl ?_); (first | refine lB S rfl rfl ?_ | refine lES2 S rfl rfl ?_ | refine lEB S ?_ | refine lH S ?_); refine mv ?_; refine mv ?_; (first | refine ixB S ?_ | refine ixS2 S rfl rfl ?_); (first | refine lB S rfl rfl ?_ | refine lES2 S rfl rfl ?_ | refine lEB S ?_ | refine lH S ?_); (first | refine sb ?_ | refine vl ?_); (first | refine cT ?_ | refine cF ?_ | (refine cS ?_ ?_ <;> intro hc)) <;> (refine mv ?_; (first | refine off ?_ | (first | refine lB S rfl rfl ?_ | refine lES2 S rfl rfl ?_ | refine lEB S ?_ | refine lH S ?_)); (first | refine off ?_ | refine mv ?_); (first | refine off ?_ | refine mv ?_); (first | refine off ?_ | (first | refine ixB S ?_ | refine ixS2 S rfl rfl ?_)); (first | refine off ?_ | (first | refine lB S rfl rfl ?_ | refine lES2 S rfl rfl ?_ | refine lEB S ?_ | refine lH S ?_)); (first | refine off ?_ | refine mv ?_); (first | refine off ?_ | refine mv ?_); (first | refine off ?_ | (first | refine ixB S ?_ | refine ixS2 S rfl rfl ?_)); (first | refine off ?_ | (first | refine lB S rfl rfl ?_ | refine lES2 S rfl rfl ?_ | refine lEB S ?_ | refine lH S ?_)); (first | (refine off ?_; (first | refine off ?_ | (first | refine lnB S ?_ | refine lnS S rfl rfl ?_)); (first | refine off ?_ | (first | refine cT ?_ | refine cF ?_ | (refine cS ?_ ?_ <;> intro hc))) <;> (refine vl ?_; refine KO_nil ?_)) | skip)))))
              all_goals (try simp only [Int.toNat_natCast] at *)
              · skip
                all_goals (repeat' (first | refine K_seq ?_ | refine k_cond rfl ?_ | refine K_skip ?_ | refine K_exit ?_ | refine k_block ?_ | refine K_scope ?_ | refine K_label ?_ | (refine K_region (id := 33) ?_; refine mv ?_; (first | refine ad ?_ | refine vl ?_); refine mv ?_; refine KO_nil ?_)))
                refine ⟨k + 1, ?_, ?_, (by repeat (first | exact Ks.le_nil _ | refine Ks.le_cons rfl ?_ | refine Ks.le_int ?_))⟩
                · show ks + 1 - (k + 1) < ks + 1 - k; omega
                · exact ⟨S, hnx (fun q => hc q.1), nxtD k2 (fun q => hc q.1)⟩
              · have ek : far.getD k default = far.getD a default - 1 := by omega
                (refine KO_fn rfl rfl rfl rfl rfl ((rcommon_ok S.wf v r (HR.ext w S.ext) H (ns.getD a default) (ns.getD k default)).mono ?_); rintro uc h ⟨lc, x, c1, c2⟩) <;> (replace S := S.join1 x; clear x; (first | refine off ?_ | (first | refine lnB S ?_ | refine lnS S rfl rfl ?_)); (first | refine off ?_ | (first | refine cT ?_ | refine cF ?_ | (refine cS ?_ ?_ <;> intro hc))) <;> (refine vl ?_; refine KO_nil ?_))
                all_goals (repeat' (first | refine K_seq ?_ | refine k_cond rfl ?_ | refine K_skip ?_ | refine K_exit ?_ | refine k_block ?_ | refine K_scope ?_ | refine K_label ?_ | (refine K_draw (id := 32) ?_; refine mv ?_; refine mv ?_; (first | refine ixB S ?_ | refine ixS2 S rfl rfl ?_); (first | refine lB S rfl rfl ?_ | refine lES2 S rfl rfl ?_ | refine lEB S ?_ | refine lH S ?_); refine mv ?_; refine mv ?_; (first | refine ixB S ?_ | refine ixS2 S rfl rfl ?_); (first | refine lB S rfl rfl ?_ | refine lES2 S rfl rfl ?_ | refine lEB S ?_ | refine lH S ?_); (first | refine sb ?_ | refine vl ?_); (first | refine cT ?_ | refine cF ?_ | (refine cS ?_ ?_ <;> intro hc)) <;> (refine mv ?_; (first | refine off ?_ | (first | refine lB S rfl rfl ?_ | refine lES2 S rfl rfl ?_ | refine lEB S ?_ | refine lH S ?_)); (first | refine off ?_ | refine mv ?_); (first | refine off ?_ | refine mv ?_); (first | refine off ?_ | (first | refine ixB S ?_ | refine ixS2 S rfl rfl ?_)); (first | refine off ?_ | (first | refine lB S rfl rfl ?_ | refine lES2 S rfl rfl ?_ | refine lEB S ?_ | refine lH S ?_)); (first | refine off ?_ | refine mv ?_); (first | refine off ?_ | refine mv ?_); (first | refine off ?_ | (first | refine ixB S ?_ | refine ixS2 S rfl rfl ?_)); (first | refine off ?_ | (first | refine lB S rfl rfl ?_ | refine lES2 S rfl rfl ?_ | refine lEB S ?_ | refine lH S ?_)); (first | (refine off ?_; (first | refine off ?_ | (first | refine lnB S ?_ | refine lnS S rfl rfl ?_)); (first | refine off ?_ | (first | refine cT ?_ | refine cF ?_ | (refine cS ?_ ?_ <;> intro hc))) <;> (refine vl ?_; refine KO_nil ?_)) | skip)))))
                · have hsp : ¬ spk r (ns.getD a default) (ns.getD k default) := fun q => by
                    have := comF_spk.2 q
                    rw [← c1] at this; omega
                  skip
                  all_goals (repeat' (first | refine K_seq ?_ | refine k_cond rfl ?_ | refine K_skip ?_ | refine K_exit ?_ | refine k_block ?_ | refine K_scope ?_ | refine K_label ?_ | (refine K_region (id := 33) ?_; refine mv ?_; (first | refine ad ?_ | refine vl ?_); refine mv ?_; refine KO_nil ?_)))
                  refine ⟨k + 1, ?_, ?_, (by repeat (first | exact Ks.le_nil _ | refine Ks.le_cons rfl ?_ | refine Ks.le_int ?_))⟩
                  · show ks + 1 - (k + 1) < ks + 1 - k; omega
                  · exact ⟨S.tail, hnx (fun q => hsp q.2), nxtD k2 (fun q => hsp q.2)⟩
                · have hsp : spk r (ns.getD a default) (ns.getD k default) := comF_spk.1 (by rw [← c1]; omega)
                  skip
                  all_goals (repeat' (first | refine K_seq ?_ | refine k_cond rfl ?_ | refine K_skip ?_ | refine K_exit ?_ | refine k_block ?_ | refine K_scope ?_ | refine K_label ?_ | (refine K_region (id := 34) ?_; refine mv ?_; refine mv ?_; refine KO_nil ?_) | (refine K_region (id := 35) ?_; refine mv ?_; refine mv ?_; refine mv ?_; (first | refine ixB S ?_ | refine ixS2 S rfl rfl ?_); (first | refine lB S rfl rfl ?_ | refine lES2 S rfl rfl ?_ | refine lEB S ?_ | refine lH S ?_); (refine one 1 S ?_; clear S; intro u h S))))
                  simp only [Int.toNat_natCast] at *
                  have hpl : (pre ++ [ns.getD a default]).length ≤ 64 := by rw [List.length_append, List.length_singleton]; omega
                  refine app (y0 := ns.getD k default) S rfl rfl ?_; clear S; intro v16 h S; (refine mv ?_; refine KO_nil ?_)
                  refine ⟨(k, v16, pre ++ [ns.getD a default]), ?_, ?_, (by repeat (first | exact Ks.le_nil _ | refine Ks.le_cons rfl ?_ | refine Ks.le_int ?_))⟩
                  · show (far.getD k default).toNat < (far.getD a default).toNat; omega
                  · refine ⟨S.pick, by (try dsimp only); omega, by (try dsimp only); omega, ?_, fun T c => ?_⟩
                    · show ((pre ++ [ns.getD a default]).length : Int) + far.getD k default ≤ 63
                      rw [List.length_append, List.length_singleton]; omega
                    · have := a4 _ (F.step n1 C hns (by omega) hkl a2 ek hsp k2 c)
                      show ChainOk r na nb (pre ++ [ns.getD a default] ++ T)
                      rw [List.append_assoc]; exact this
            · have e0 : ns.getD a default = nb := (F.z a (by omega)).1 (by omega)
              have hka : gat r.us na ≠ none := by rw [← j2]; exact (n2 _).1 (mem_getD j1)
              have hkb : gat r.us nb ≠ none := by rw [← e0]; exact (n2 _).1 (mem_getD a1)
              have hpl : (pre ++ [ns.getD a default]).length ≤ 64 := by rw [List.length_append, List.length_singleton]; omega
              skip
              all_goals (repeat' (first | refine K_seq ?_ | refine k_cond rfl ?_ | refine K_skip ?_ | refine K_exit ?_ | refine k_block ?_ | refine K_scope ?_ | refine K_label ?_ | (refine K_region (id := 36) ?_; refine mv ?_; refine mv ?_; refine mv ?_; refine KO_nil ?_)))
              refine K_ret ⟨_, rfl, ?_⟩
              refine .inl ⟨v16, _, rfl, S.only .here, hka, hkb, ?_, hpl⟩
              rw [e0]
              exact a4 _ (by rw [e0]; exact ChainOk.one r nb)
    · all_goals (repeat' (first | refine K_seq ?_ | refine k_cond rfl ?_ | refine K_skip ?_ | refine K_exit ?_ | refine k_block ?_ | refine K_scope ?_ | refine K_label ?_ | (refine K_region (id := 10) ?_; refine mv ?_; refine KO_nil ?_) | (refine K_region (id := 11) ?_; refine mv ?_; refine KO_nil ?_) | (refine K_region (id := 12) ?_; refine mv ?_; refine KO_nil ?_)))
      obtain ⟨s0, hs0⟩ : ∃ s0, sumN far = s0 := ⟨_, rfl⟩
      refine k_loop (σ := Nat × List Int × Bool) (fun (i, far, ch) h' => Hs h0 h' [.sl v9 3 1 eI far, .sl un 9 1 eS ns, .blk b3 [v.vg.val, v.vt.val] 32] ∧ i ≤ ns.length ∧ FI r ns nb far ∧ (ch = false → ∀ i' k', i' < i → k' < ns.length → spk r (ns.getD i' default) (ns.getD k' default) → far.getD i' default ≤ far.getD k' default + 1) ∧ (ch = true → sumN far < s0) ∧ sumN far ≤ s0) (fun (i, far, ch) => ns.length - i) (fun (i, far, ch) => [(1, str na), (2, str nb), (3, .pointer (some ⟨b3, 0, none⟩)), (8, un), (9, v9), (11, .bool ch), (12, .int .i64 i)]) (0, far, false) (by repeat (first | exact Ks.le_nil _ | refine Ks.le_cons rfl ?_ | refine Ks.le_int ?_)) ?_ ?_
      · exact ⟨S, Nat.zero_le _, F, fun _ i' k' h => absurd h (Nat.not_lt_zero _), (fun q => by cases q), Nat.le_of_eq hs0⟩
      clear S F C hfl
      rintro ⟨i, far, ch⟩ h ⟨S, g1, F, p1, p2, p3⟩
      have hfl := F.len
      all_goals (repeat' (first | refine K_seq ?_ | refine k_cond rfl ?_ | refine K_skip ?_ | refine K_exit ?_ | refine k_block ?_ | refine K_scope ?_ | refine K_label ?_ | (refine K_region (id := 13) ?_; refine mv ?_; refine mv ?_; (first | refine lnB S ?_ | refine lnS S rfl rfl ?_); (first | refine cT ?_ | refine cF ?_ | (refine cS ?_ ?_ <;> intro hc)) <;> (refine KO_nil ?_))))
      · have hil : i < ns.length := by omega
        all_goals (repeat' (first | refine K_seq ?_ | refine k_cond rfl ?_ | refine K_skip ?_ | refine K_exit ?_ | refine k_block ?_ | refine K_scope ?_ | refine K_label ?_ | (refine K_region (id := 15) ?_; refine mv ?_; refine KO_nil ?_)))
        refine k_loop (σ := Nat × List Int × Bool) (fun (k, far, ch) h' => Hs h0 h' [.sl v9 3 1 eI far, .sl un 9 1 eS ns, .blk b3 [v.vg.val, v.vt.val] 32] ∧ k ≤ ns.length ∧ FI r ns nb far ∧ (ch = false → ∀ i' k', (i' < i ∨ (i' = i ∧ k' < k)) → k' < ns.length → spk r (ns.getD i' default) (ns.getD k' default) → far.getD i' default ≤ far.getD k' default + 1) ∧ (ch = true → sumN far < s0) ∧ sumN far ≤ s0) (fun (k, far, ch) => ns.length - k) (fun (k, far, ch) => [(1, str na), (2, str nb), (3, .pointer (some ⟨b3, 0, none⟩)), (8, un), (9, v9), (11, .bool ch), (12, .int .i64 i), (13, .int .i64 k)]) (0, far, ch) (by repeat (first | exact Ks.le_nil _ | refine Ks.le_cons rfl ?_ | refine Ks.le_int ?_)) ?_ ?_
        · refine ⟨S, Nat.zero_le _, F, fun q i' k' h => p1 q i' k' ?_, p2, p3⟩
          rcases h with h | h
          · exact h
          · exact absurd h.2 (Nat.not_lt_zero _)
        clear S F hfl p1 p2 p3
        rintro ⟨k, far, ch⟩ h ⟨S, k1, F, p1, p2, p3⟩
        have hfl := F.len
        all_goals (repeat' (first | refine K_seq ?_ | refine k_cond rfl ?_ | refine K_skip ?_ | refine K_exit ?_ | refine k_block ?_ | refine K_scope ?_ | refine K_label ?_ | (refine K_region (id := 16) ?_; refine mv ?_; refine mv ?_; (first | refine lnB S ?_ | refine lnS S rfl rfl ?_); (first | refine cT ?_ | refine cF ?_ | (refine cS ?_ ?_ <;> intro hc)) <;> (refine KO_nil ?_))))
        · have hkl : k < ns.length := by omega
          have hr1 : 0 ≤ far.getD (i : Int).toNat default ∧ far.getD (i : Int).toNat default ≤ 1000 := F.rng i (by omega)
          have hr2 : 0 ≤ far.getD (k : Int).toNat default ∧ far.getD (k : Int).toNat default ≤ 1000 := F.rng k (by omega)
          have hstay : ∀ far' : List Int, far' = far → (spk r (ns.getD i default) (ns.getD k default) → far.getD i default ≤ far.getD k default + 1) → ∀ i' k', (i' < i ∨ (i' = i ∧ k' < k + 1)) → (ch = false) → k' < ns.length → spk r (ns.getD i' default) (ns.getD k' default) → far.getD i' default ≤ far.getD k' default + 1 := fun _ _ hq i' k' h q hk a => by
            by_cases e : i' = i ∧ k' = k
            · obtain ⟨rfl, rfl⟩ := e
              exact hq a
            · exact p1 q i' k' (by omega) hk a
          all_goals (repeat' (first | refine K_seq ?_ | refine k_cond rfl ?_ | refine K_skip ?_ | refine K_exit ?_ | refine k_block ?_ | refine K_scope ?_ | refine K_label ?_ | (refine K_draw (id := 18) ?_; refine mv ?_; refine mv ?_; (first | refine ixB S ?_ | refine ixS2 S rfl rfl ?_); (first | refine lB S rfl rfl ?_ | refine lES2 S rfl rfl ?_ | refine lEB S ?_ | refine lH S ?_); (first | refine ad ?_ | refine vl ?_); refine mv ?_; refine mv ?_; (first | refine ixB S ?_ | refine ixS2 S rfl rfl ?_); (first | refine lB S rfl rfl ?_ | refine lES2 S rfl rfl ?_ | refine lEB S ?_ | refine lH S ?_); (first | refine cT ?_ | refine cF ?_ | (refine cS ?_ ?_ <;> intro hc)) <;> (refine mv ?_; (first | refine off ?_ | (first | refine lB S rfl rfl ?_ | refine lES2 S rfl rfl ?_ | refine lEB S ?_ | refine lH S ?_)); (first | refine off ?_ | refine mv ?_); (first | refine off ?_ | refine mv ?_); (first | refine off ?_ | (first | refine ixB S ?_ | refine ixS2 S rfl rfl ?_)); (first | refine off ?_ | (first | refine lB S rfl rfl ?_ | refine lES2 S rfl rfl ?_ | refine lEB S ?_ | refine lH S ?_)); (first | refine off ?_ | refine mv ?_); (first | refine off ?_ | refine mv ?_); (first | refine off ?_ | (first | refine ixB S ?_ | refine ixS2 S rfl rfl ?_)); (first | refine off ?_ | (first | refine lB S rfl rfl ?_ | refine lES2 S rfl rfl ?_ | refine lEB S ?_ | refine lH S ?_)); (first | (refine off ?_; (first | refine off ?_ | (first | refine lnB S ?_ | refine lnS S rfl rfl ?_)); (first | refine off ?_ | (first | refine cT ?_ | refine cF ?_ | (refine cS ?_ ?_ <;> intro hc))) <;> (refine vl ?_; refine KO_nil ?_)) | skip)))))
          all_goals (try simp only [Int.toNat_natCast] at *)
          · (refine KO_fn rfl rfl rfl rfl rfl ((rcommon_ok S.wf v r (HR.ext w S.ext) H (ns.getD i default) (ns.getD k default)).mono ?_); rintro uc h ⟨lc, x, c1, c2⟩) <;> (replace S := S.join1 x; clear x; (first | refine off ?_ | (first | refine lnB S ?_ | refine lnS S rfl rfl ?_)); (first | refine off ?_ | (first | refine cT ?_ | refine cF ?_ | (refine cS ?_ ?_ <;> intro hc))) <;> (refine vl ?_; refine KO_nil ?_))
            all_goals (repeat' (first | refine K_seq ?_ | refine k_cond rfl ?_ | refine K_skip ?_ | refine K_exit ?_ | refine k_block ?_ | refine K_scope ?_ | refine K_label ?_ | (refine K_draw (id := 18) ?_; refine mv ?_; refine mv ?_; (first | refine ixB S ?_ | refine ixS2 S rfl rfl ?_); (first | refine lB S rfl rfl ?_ | refine lES2 S rfl rfl ?_ | refine lEB S ?_ | refine lH S ?_); (first | refine ad ?_ | refine vl ?_); refine mv ?_; refine mv ?_; (first | refine ixB S ?_ | refine ixS2 S rfl rfl ?_); (first | refine lB S rfl rfl ?_ | refine lES2 S rfl rfl ?_ | refine lEB S ?_ | refine lH S ?_); (first | refine cT ?_ | refine cF ?_ | (refine cS ?_ ?_ <;> intro hc)) <;> (refine mv ?_; (first | refine off ?_ | (first | refine lB S rfl rfl ?_ | refine lES2 S rfl rfl ?_ | refine lEB S ?_ | refine lH S ?_)); (first | refine off ?_ | refine mv ?_); (first | refine off ?_ | refine mv ?_); (first | refine off ?_ | (first | refine ixB S ?_ | refine ixS2 S rfl rfl ?_)); (first | refine off ?_ | (first | refine lB S rfl rfl ?_ | refine lES2 S rfl rfl ?_ | refine lEB S ?_ | refine lH S ?_)); (first | refine off ?_ | refine mv ?_); (first | refine off ?_ | refine mv ?_); (first | refine off ?_ | (first | refine ixB S ?_ | refine ixS2 S rfl rfl ?_)); (first | refine off ?_ | (first | refine lB S rfl rfl ?_ | refine lES2 S rfl rfl ?_ | refine lEB S ?_ | refine lH S ?_)); (first | (refine off ?_; (first | refine off ?_ | (first | refine lnB S ?_ | refine lnS S rfl rfl ?_)); (first | refine off ?_ | (first | refine cT ?_ | refine cF ?_ | (refine cS ?_ ?_ <;> intro hc))) <;> (refine vl ?_; refine KO_nil ?_)) | skip)))))
            · have hsp : spk r (ns.getD i default) (ns.getD k default) := comF_spk.1 (by rw [← c1]; omega)
              have F2 := F.set (by omega) (by omega) (by assumption) hsp
              have hsum := sumN_set (l := far) (i := i) (x := far.getD k default + 1) (by omega) (by omega)
              skip
              all_goals (repeat' (first | refine K_seq ?_ | refine k_cond rfl ?_ | refine K_skip ?_ | refine K_exit ?_ | refine k_block ?_ | refine K_scope ?_ | refine K_label ?_ | (refine K_region (id := 17) ?_; refine mv ?_; (first | refine ad ?_ | refine vl ?_); refine mv ?_; refine KO_nil ?_) | (refine K_region (id := 19) ?_; refine mv ?_; refine mv ?_; refine mv ?_; refine mv ?_; (first | refine ixB S ?_ | refine ixS2 S rfl rfl ?_); (first | refine lB S rfl rfl ?_ | refine lES2 S rfl rfl ?_ | refine lEB S ?_ | refine lH S ?_); (first | refine ad ?_ | refine vl ?_); (first | refine ixB S ?_ | refine ixS2 S rfl rfl ?_); (first | (refine sB S rfl rfl ?_; clear S; intro h S) | (refine sE2 S rfl rfl ?_; clear S; intro h S)); refine KO_nil ?_) | (refine K_region (id := 20) ?_; refine mv ?_; refine KO_nil ?_)))
              simp only [Int.toNat_natCast] at S
              refine ⟨(k + 1, far.set i (far.getD k default + 1), true), ?_, ?_, (by repeat (first | exact Ks.le_nil _ | refine Ks.le_cons rfl ?_ | refine Ks.le_int ?_))⟩
              · show ns.length - (k + 1) < ns.length - k; omega
              · exact ⟨S.tail, by (try dsimp only); omega, F2, (fun q => by cases q), fun _ => by (try dsimp only); omega, by (try dsimp only); omega⟩
            · have hsp : ¬ spk r (ns.getD i default) (ns.getD k default) := fun q => by
                have := comF_spk.2 q
                rw [← c1] at this; omega
              skip
              all_goals (repeat' (first | refine K_seq ?_ | refine k_cond rfl ?_ | refine K_skip ?_ | refine K_exit ?_ | refine k_block ?_ | refine K_scope ?_ | refine K_label ?_ | (refine K_region (id := 17) ?_; refine mv ?_; (first | refine ad ?_ | refine vl ?_); refine mv ?_; refine KO_nil ?_)))
              refine ⟨(k + 1, far, ch), ?_, ?_, (by repeat (first | exact Ks.le_nil _ | refine Ks.le_cons rfl ?_ | refine Ks.le_int ?_))⟩
              · show ns.length - (k + 1) < ns.length - k; omega
              · exact ⟨S.tail, by (try dsimp only); omega, F, fun q i' k' h hk a => hstay far rfl (fun z => absurd z hsp) i' k' h q hk a, p2, p3⟩
          · skip
            all_goals (repeat' (first | refine K_seq ?_ | refine k_cond rfl ?_ | refine K_skip ?_ | refine K_exit ?_ | refine k_block ?_ | refine K_scope ?_ | refine K_label ?_ | (refine K_region (id := 17) ?_; refine mv ?_; (first | refine ad ?_ | refine vl ?_); refine mv ?_; refine KO_nil ?_)))
            refine ⟨(k + 1, far, ch), ?_, ?_, (by repeat (first | exact Ks.le_nil _ | refine Ks.le_cons rfl ?_ | refine Ks.le_int ?_))⟩
            · show ns.length - (k + 1) < ns.length - k; omega
            · exact ⟨S, by (try dsimp only); omega, F, fun q i' k' h hk a => hstay far rfl (fun _ => by omega) i' k' h q hk a, p2, p3⟩
        · obtain rfl : k = ns.length := by omega
          skip
          all_goals (repeat' (first | refine K_seq ?_ | refine k_cond rfl ?_ | refine K_skip ?_ | refine K_exit ?_ | refine k_block ?_ | refine K_scope ?_ | refine K_label ?_ | (refine K_region (id := 14) ?_; refine mv ?_; (first | refine ad ?_ | refine vl ?_); refine mv ?_; refine KO_nil ?_)))
          refine ⟨(i + 1, far, ch), ?_, ?_, (by repeat (first | exact Ks.le_nil _ | refine Ks.le_cons rfl ?_ | refine Ks.le_int ?_))⟩
          · show ns.length - (i + 1) < ns.length - i; omega
          · exact ⟨S, by (try dsimp only); omega, F, fun q i' k' h hk => p1 q i' k' (by (try dsimp only at h); omega) hk, p2, p3⟩
      · obtain rfl : i = ns.length := by omega
        refine ⟨(far, ch), ?_, ?_, (by repeat (first | exact Ks.le_nil _ | refine Ks.le_cons rfl ?_ | refine Ks.le_int ?_))⟩
        · show 2 * sumN far + (if ch then 1 else 0) < 2 * sumN _ + (if true then 1 else 0)
          rw [hs0]
          cases ch
          · simp; omega
          · have := p2 rfl
            simp; omega
        · exact ⟨S, F, fun q i' k' hi hk => p1 q i' k' hi hk⟩
end Go.Proofs.Xx
