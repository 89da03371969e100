/-
  Rolls of numbers.
-/
import Derived.Test.YticddjokabmfmaaGreatDoorM8

namespace Go.Proofs.Xx
open Go Go.Proofs
set_option linter.unusedSimpArgs false
set_option linter.unusedVariables false
set_option linter.unusedSectionVars false
set_option maxRecDepth 100000
set_option maxHeartbeats 4000000

/-- Numbers of 16 bits. -/
def e16 (x : Nat) : List Value := [.int .u16 x]
/-- A guest of numbers, but for its tongues. -/
def MdG (g : Gu) (i : Nat) : Prop := g.name = num (25 * i) ∧ someP g.rank ∧ someP g.court ∧ someP g.diet ∧ (0 ≤ g.since ∧ g.since ≤ 9999) ∧ (0 ≤ g.side ∧ g.side ≤ 2)
/-- Its tongues, behind k of them. -/
def MdT (l : List (List UInt8)) (k : Nat) : Prop := l.length ≤ k ∧ (∀ j, j < l.length → ∃ m, m < k ∧ l.getD j default = num m) ∧ ∀ j, j + 1 < l.length → sLt (l.getD j default) (l.getD (j + 1) default)
theorem MdT.next {l : List (List UInt8)} {k : Nat} (h : MdT l k) : MdT l (k + 1) := ⟨by have := h.1; omega, fun j hj => by obtain ⟨m, h1, h2⟩ := h.2.1 j hj; exact ⟨m, by omega, h2⟩, h.2.2⟩
theorem MdT.app {l : List (List UInt8)} {k : Nat} (h : MdT l k) (hk : k < 4) : MdT (l ++ [num k]) (k + 1) := by
  refine ⟨by simp; exact h.1, fun j hj => ?_, fun j hj => ?_⟩
  · simp at hj
    rcases Nat.lt_or_ge j l.length with q | q
    · rw [gA1 q]; exact h.next.2.1 j q
    · obtain rfl : j = l.length := by omega
      rw [gA2 (Nat.le_refl _), Nat.sub_self]; exact ⟨k, by omega, rfl⟩
  · simp at hj
    rw [gA1 (show j < l.length by omega)]
    rcases Nat.lt_or_ge (j + 1) l.length with q | q
    · rw [gA1 q]; exact h.2.2 j q
    · rw [gA2 q, show j + 1 - l.length = 0 by omega]
      obtain ⟨m, h1, h2⟩ := h.2.1 j (by omega)
      rw [h2]; exact (num_lt (by omega) (by omega)).2 h1
theorem Md_chk {g : Gu} {i : Nat} (h : MdG g i) (h2 : MdT g.tg 4) : chkG g = 0 := by
  obtain ⟨a1, a2, a3, a4, a5, a6⟩ := h
  refine chkG_0 ⟨by rw [a1]; exact num_name _, a2, a3, a4⟩ a5 a6 ⟨h2.1, fun j hj => ⟨?_, fun q => ?_⟩⟩
  · obtain ⟨m, -, e⟩ := h2.2.1 j hj
    rw [e]; exact num_name _
  · have := h2.2.2 (j - 1) (by omega)
    rwa [show j - 1 + 1 = j by omega] at this
abbrev MdR (q q4 : Nat) (gs : List Gst) (vg : SlV) : List Rs := [tgR gs, .sl vg.val 122 9 eG gs, .blk q [vg.val, .slice none 0 0] 104, .blk q4 [.slice none 0 0, .slice none 0 0] 104]
abbrev MdI (h0 : AH) (q q4 : Nat) (la : List Nat) (gs : List Gst) (vg : SlV) (h : AH) : Prop := Hs h0 h (MdR q q4 gs vg) ∧ gs.length ≤ 12 ∧ gs.length ≤ la.length ∧ ∀ i, i < gs.length → MdG (gs.getD i default).toGu i ∧ MdT (gs.getD i default).tg 4
abbrev MdJ (h0 : AH) (q q4 : Nat) (gs : List Gst) (vg : SlV) (k : Nat) (b : Nat) (g : Gst) (h : AH) : Prop := Hs h0 h (.blk b (eG g) 122 :: .sl g.tv.val 9 1 eS g.tg :: MdR q q4 gs vg) ∧ MdG g.toGu gs.length ∧ MdT g.tg k
/-- The ties so far. -/
def TI (us : List Gu) (ts : List Ti) (i k : Nat) : Prop := TS ts ∧ (∀ t ∈ ts, sLt t.a t.b ∧ (t.k = 1 ∨ t.k = 2) ∧ gat us t.a ≠ none ∧ gat us t.b ≠ none) ∧ (∀ t ∈ ts, sLt t.a (num i) ∨ (t.a = num i ∧ sLt t.b (num k))) ∧ ts.length ≤ 13 * ((i + 24) / 25) + (if i % 25 = 0 then (k + 24) / 25 else 0)
def TIo (us : List Gu) (ts : List Ti) (i : Nat) : Prop := TS ts ∧ (∀ t ∈ ts, sLt t.a t.b ∧ (t.k = 1 ∨ t.k = 2) ∧ gat us t.a ≠ none ∧ gat us t.b ≠ none) ∧ (∀ t ∈ ts, sLt t.a (num i)) ∧ ts.length ≤ 13 * ((i + 24) / 25)
theorem TIo.inn {us : List Gu} {ts : List Ti} {i : Nat} (h : TIo us ts i) (k : Nat) : TI us ts i k := ⟨h.1, h.2.1, fun t ht => .inl (h.2.2.1 t ht), Nat.le_trans h.2.2.2 (Nat.le_add_right _ _)⟩
theorem TI.out {us : List Gu} {ts : List Ti} {i k : Nat} (h : TI us ts i k) (hi : i < 312) (hk : k ≤ 312) : TIo us ts (i + 1) := by
  refine ⟨h.1, h.2.1, fun t ht => ?_, ?_⟩
  · have := (num_lt (i := i) (j := i + 1) (by omega) (by omega)).2 (by omega)
    rcases h.2.2.1 t ht with q | q
    · exact sLt_trans q this
    · rw [q.1]; exact this
  · have := h.2.2.2
    split at this <;> omega
theorem TI.next {us : List Gu} {ts : List Ti} {i k : Nat} (h : TI us ts i k) (hk : k < 312) : TI us ts i (k + 1) := by
  refine ⟨h.1, h.2.1, fun t ht => ?_, ?_⟩
  · rcases h.2.2.1 t ht with q | q
    · exact .inl q
    · exact .inr ⟨q.1, sLt_trans q.2 ((num_lt (by omega) (by omega)).2 (by omega))⟩
  · have := h.2.2.2
    split at this <;> split <;> omega
theorem TI.app {us : List Gu} {ts : List Ti} {i k : Nat} {z : Int} (h : TI us ts i k) (hik : i < k) (hk : k < 312) (hz : z = 1 ∨ z = 2) (hi2 : i % 25 = 0) (hk2 : k % 25 = 0) (g1 : gat us (num i) ≠ none) (g2 : gat us (num k) ≠ none) : TI us (ts ++ [⟨num i, num k, z⟩]) i (k + 1) := by
  refine ⟨h.1.app fun j hj => ?_, fun t ht => ?_, fun t ht => ?_, ?_⟩
  · exact h.2.2.1 _ (mem_getD hj)
  · rcases List.mem_append.1 ht with q | q
    · exact h.2.1 t q
    · obtain rfl := List.mem_singleton.1 q
      exact ⟨(num_lt (by omega) (by omega)).2 hik, hz, g1, g2⟩
  · rcases List.mem_append.1 ht with q | q
    · exact (h.next hk).2.2.1 t q
    · obtain rfl := List.mem_singleton.1 q
      exact .inr ⟨rfl, (num_lt (by omega) (by omega)).2 (by omega)⟩
  · have := h.2.2.2
    rw [if_pos hi2] at this ⊢
    simp; omega
abbrev MdQ (q q4 : Nat) (gs : List Gst) (vg : SlV) (ts : List Ti) (vt : SlV) : List Rs := [.sl vg.val 122 9 eG gs, .blk q4 [.slice none 0 0, .slice none 0 0] 104, tgR gs, .blk q [vg.val, vt.val] 104, .sl vt.val 152 3 eTi ts]
variable [Flag]
theorem made_ok {h0 : AH} (w : WfH h0) (va vb : Value) (la lb : List Nat) (ra : RdL h0 va 1 e16 la) (rb : RdL h0 vb 1 eU lb) (hla : la.length ≤ 9223372036854775807) (hlb : lb.length ≤ 9223372036854775807) (h16 : ∀ i, i < la.length → la.getD i default < 65536) (h8 : ∀ i, i < lb.length → lb.getD i default < 256) :
    Fn Tryz.prog Xh 59 [va, vb] h0 (fun v h' => ∃ rv r, v = rv.val ∧ RlOk h' rv r ∧ RO r ∧ (r.us.length ≤ 12 ∧ (r.us.length ≤ la.length ∧ ∀ i, i < r.us.length → (r.us.getD i default).name = num (25 * i))) ∧ Hs h0 h' [.sl rv.vg.val 122 9 eG rv.gs, .sl rv.vt.val 152 3 eTi r.ts, tgR rv.gs]) := by
  have S := Hs.start w
  refine Fn_K (by first | rfl) Tryz.func59 rfl rfl ?_
  all_goals (repeat' (first | refine K_seq ?_ | (refine K_region (id := 0) ?_; (refine al S ?_; clear S; intro b h S); refine KO_nil ?_) | (refine K_region (id := 1) ?_; (refine al S ?_; clear S; intro b h S); refine KO_nil ?_) | (refine K_region (id := 2) ?_; refine mv ?_; refine KO_nil ?_)))
  have S := (S.nilS (e := 122) (z := 9) (enc := eG)).anyS (p := TgsOk []) fun h' g hg => by cases hg
  obtain ⟨q, hnm⟩ : ∃ x, x = b := ⟨_, rfl⟩; subst hnm
  obtain ⟨q4, hnm⟩ : ∃ x, x = b := ⟨_, rfl⟩; subst hnm
  replace S : Hs h0 h [tgR [], .sl (SlV.val ⟨none, 0, 0⟩) 122 9 eG [], .blk q [SlV.val ⟨none, 0, 0⟩, .slice none 0 0] 104, .blk q4 [.slice none 0 0, .slice none 0 0] 104] := S
  (repeat (refine K_seq ?_)); first | refine K_join1 (σ := List Gst × SlV) (fun (gs, vg) h' => MdI h0 q q4 la gs vg h') (fun (gs, vg) => [(0, va), (1, vb), (4, .pointer (some ⟨q4, 0, none⟩)), (5, .pointer (some ⟨q, 0, none⟩))]) ?_ ?_
  · all_goals (repeat' (refine k_block ?_))
    refine k_loop (σ := List Gst × SlV) (fun (gs, vg) h' => MdI h0 q q4 la gs vg h') (fun (gs, vg) => 12 - gs.length) (fun (gs, vg) => [(0, va), (1, vb), (4, .pointer (some ⟨q4, 0, none⟩)), (5, .pointer (some ⟨q, 0, none⟩)), (6, .int .i64 gs.length)]) ([], ⟨none, 0, 0⟩) (by repeat (first | exact Ks.le_nil _ | refine Ks.le_cons rfl ?_)) ?_ ?_
    · exact ⟨S, Nat.zero_le _, Nat.zero_le _, fun j hj => absurd hj (Nat.not_lt_zero _)⟩
    clear S
    rintro ⟨gs, vg⟩ h ⟨S, g1, g2, g3⟩
    all_goals (repeat' (first | refine K_seq ?_ | refine k_cond rfl ?_ | refine K_skip ?_ | refine K_exit ?_ | refine k_block ?_ | (refine K_region (id := 3) ?_; refine mv ?_; refine mv ?_; refine lnB S ?_; (first | (refine cS ?_ ?_ <;> intro hc)) <;> (refine mv ?_; (first | refine off ?_ | refine mv ?_); (first | refine off ?_ | (first | (refine cS ?_ ?_ <;> intro hc))) <;> (refine vl ?_; refine KO_nil ?_))) | (refine K_region (id := 5) ?_; refine mv ?_; refine mv ?_; refine ixB S ?_; refine lEB S ?_; refine cI ?_; refine mv ?_; refine KO_nil ?_)))
    · obtain ⟨x, hx, hx2⟩ : ∃ x, la.getD gs.length default = x ∧ x < 65536 := ⟨_, rfl, h16 _ (by omega)⟩
      simp only [Int.toNat_natCast, hx]
      have r1 : 0 ≤ (x : Int) % 4 * 500 ∧ (x : Int) % 4 * 500 ≤ 9999 := by omega
      have r2 : 0 ≤ (x : Int) % 3 ∧ (x : Int) % 3 ≤ 2 := by omega
      have r3 : 25 * (gs.length : Int) % 312 + (gs.length : Int) / 12 = ((25 * gs.length : Nat) : Int) := by
        rw [Int.emod_eq_of_lt (by omega) (by omega), Int.ediv_eq_zero_of_lt (by omega) (by omega)]; omega
      (repeat (refine K_seq ?_)); first | refine K_join1 (σ := Nat × Gst) (fun (b, g) h' => MdJ h0 q q4 gs vg 0 b g h') (fun (b, g) => [(0, va), (1, vb), (4, .pointer (some ⟨q4, 0, none⟩)), (5, .pointer (some ⟨q, 0, none⟩)), (6, .int .i64 gs.length), (7, .int .i64 x), (8, .pointer (some ⟨b, 0, none⟩))]) ?_ ?_
      · all_goals (repeat' (first | (refine K_region (id := 6) ?_; refine mv ?_; refine ml ?_; refine rm ?_; refine mv ?_; refine qu ?_; refine ad ?_)))
        (refine KO_fn rfl rfl rfl rfl rfl ((number_okI S.wf (25 * gs.length) r3 (by omega)).mono ?_); rintro _ h ⟨rfl, y⟩) <;> (replace S := S.join0 y; clear y; refine mv ?_; refine rm ?_; refine ml ?_; refine mv ?_; refine rm ?_; refine mv ?_; refine rm ?_; (first | (refine cS ?_ ?_ <;> intro hc)) <;> (refine mv ?_; refine rm ?_; (first | (refine cS ?_ ?_ <;> intro hc)) <;> (refine vl ?_; (refine al S ?_; clear S; intro b h S); (first | (refine sB S rfl rfl ?_; clear S; intro h S)); refine KO_nil ?_)))
        all_goals
          have mk : ∀ hb ha : Bool, Hs h0 h (.blk b (eG ⟨⟨num (25 * gs.length), [], [], (x : Int) % 4 * 500, (x : Int) % 3, [], hb, ha, []⟩, ⟨none, 0, 0⟩⟩) 122 :: MdR q q4 gs vg) → MdJ h0 q q4 gs vg 0 b ⟨⟨num (25 * gs.length), [], [], (x : Int) % 4 * 500, (x : Int) % 3, [], hb, ha, []⟩, ⟨none, 0, 0⟩⟩ h := fun hb ha S => ⟨(S.nilS (e := 9) (z := 1) (enc := eS)).pick, ⟨rfl, .inl rfl, .inl rfl, .inl rfl, r1, r2⟩, Nat.zero_le _, fun j hj => absurd hj (Nat.not_lt_zero _), fun j hj => absurd hj (Nat.not_lt_zero _)⟩
        all_goals first
          | exact ⟨(b, _), mk true true S, ((by repeat (first | exact Ks.le_nil _ | refine Ks.le_cons rfl ?_)))⟩
          | exact ⟨(b, _), mk true false S, ((by repeat (first | exact Ks.le_nil _ | refine Ks.le_cons rfl ?_)))⟩
          | exact ⟨(b, _), mk false true S, ((by repeat (first | exact Ks.le_nil _ | refine Ks.le_cons rfl ?_)))⟩
          | exact ⟨(b, _), mk false false S, ((by repeat (first | exact Ks.le_nil _ | refine Ks.le_cons rfl ?_)))⟩
      · clear S
        rintro ⟨b, g⟩ h ⟨S, gd, gt⟩
        skip
        (repeat (refine K_seq ?_)); first | refine K_join (σ := Nat × Gst) (fun (b, g) h' => MdJ h0 q q4 gs vg 0 b g h') (fun (b, g) => [(0, va), (1, vb), (4, .pointer (some ⟨q4, 0, none⟩)), (5, .pointer (some ⟨q, 0, none⟩)), (6, .int .i64 gs.length), (7, .int .i64 x), (8, .pointer (some ⟨b, 0, none⟩))]) ?_ ?_
        · all_goals (repeat' (first | refine k_cond rfl ?_ | refine K_skip ?_ | (refine K_region (id := 7) ?_; refine mv ?_; refine rm ?_; (first | (refine cS ?_ ?_ <;> intro hc)) <;> (refine KO_nil ?_)) | (refine K_region (id := 8) ?_; refine mv ?_; refine rm ?_)))
          · (refine KO_fn rfl rfl rfl rfl rfl ((number_okI S.wf (x % 3) (by omega) (by omega)).mono ?_); rintro _ h ⟨rfl, y⟩) <;> (replace S := S.join0 y; clear y; refine vl ?_; (first | (refine sB S rfl rfl ?_; clear S; intro h S)); refine KO_nil ?_)
            exact ⟨(b, { g with rank := num (x % 3) }), ⟨S, ⟨gd.1, .inr (num_name _), gd.2.2.1, gd.2.2.2.1, gd.2.2.2.2⟩, gt⟩, ((by repeat (first | exact Ks.le_nil _ | refine Ks.le_cons rfl ?_)))⟩
          · exact ⟨(b, g), ⟨S, gd, gt⟩, ((by repeat (first | exact Ks.le_nil _ | refine Ks.le_cons rfl ?_)))⟩
        clear S
        rintro ⟨b, g⟩ h ⟨S, gd, gt⟩
        skip
        (repeat (refine K_seq ?_)); first | refine K_join (σ := Nat × Gst) (fun (b, g) h' => MdJ h0 q q4 gs vg 0 b g h') (fun (b, g) => [(0, va), (1, vb), (4, .pointer (some ⟨q4, 0, none⟩)), (5, .pointer (some ⟨q, 0, none⟩)), (6, .int .i64 gs.length), (7, .int .i64 x), (8, .pointer (some ⟨b, 0, none⟩))]) ?_ ?_
        · all_goals (repeat' (first | refine k_cond rfl ?_ | refine K_skip ?_ | (refine K_region (id := 9) ?_; refine mv ?_; refine rm ?_; (first | (refine cS ?_ ?_ <;> intro hc)) <;> (refine KO_nil ?_)) | (refine K_region (id := 10) ?_; refine mv ?_; refine rm ?_)))
          · (refine KO_fn rfl rfl rfl rfl rfl ((number_okI S.wf (x % 8) (by omega) (by omega)).mono ?_); rintro _ h ⟨rfl, y⟩) <;> (replace S := S.join0 y; clear y; refine vl ?_; (first | (refine sB S rfl rfl ?_; clear S; intro h S)); refine KO_nil ?_)
            exact ⟨(b, { g with court := num (x % 8) }), ⟨S, ⟨gd.1, gd.2.1, .inr (num_name _), gd.2.2.2.1, gd.2.2.2.2⟩, gt⟩, ((by repeat (first | exact Ks.le_nil _ | refine Ks.le_cons rfl ?_)))⟩
          · exact ⟨(b, g), ⟨S, gd, gt⟩, ((by repeat (first | exact Ks.le_nil _ | refine Ks.le_cons rfl ?_)))⟩
        clear S
        rintro ⟨b, g⟩ h ⟨S, gd, gt⟩
        skip
        (repeat (refine K_seq ?_)); first | refine K_join (σ := Nat × Gst) (fun (b, g) h' => MdJ h0 q q4 gs vg 0 b g h') (fun (b, g) => [(0, va), (1, vb), (4, .pointer (some ⟨q4, 0, none⟩)), (5, .pointer (some ⟨q, 0, none⟩)), (6, .int .i64 gs.length), (7, .int .i64 x), (8, .pointer (some ⟨b, 0, none⟩))]) ?_ ?_
        · all_goals (repeat' (first | refine k_cond rfl ?_ | refine K_skip ?_ | (refine K_region (id := 11) ?_; refine mv ?_; refine rm ?_; (first | (refine cS ?_ ?_ <;> intro hc)) <;> (refine KO_nil ?_)) | (refine K_region (id := 12) ?_; refine mv ?_; refine rm ?_)))
          · (refine KO_fn rfl rfl rfl rfl rfl ((number_okI S.wf (x % 5) (by omega) (by omega)).mono ?_); rintro _ h ⟨rfl, y⟩) <;> (replace S := S.join0 y; clear y; refine vl ?_; (first | (refine sB S rfl rfl ?_; clear S; intro h S)); refine KO_nil ?_)
            exact ⟨(b, { g with diet := num (x % 5) }), ⟨S, ⟨gd.1, gd.2.1, gd.2.2.1, .inr (num_name _), gd.2.2.2.2⟩, gt⟩, ((by repeat (first | exact Ks.le_nil _ | refine Ks.le_cons rfl ?_)))⟩
          · exact ⟨(b, g), ⟨S, gd, gt⟩, ((by repeat (first | exact Ks.le_nil _ | refine Ks.le_cons rfl ?_)))⟩
        clear S
        rintro ⟨b, g⟩ h ⟨S, gd, gt⟩
        all_goals (repeat' (first | refine K_seq ?_ | (refine K_region (id := 13) ?_; refine mv ?_; refine KO_nil ?_)))
        (repeat (refine K_seq ?_)); first | refine K_join1 (σ := Nat × Gst) (fun (b, g) h' => MdJ h0 q q4 gs vg 4 b g h') (fun (b, g) => [(0, va), (1, vb), (4, .pointer (some ⟨q4, 0, none⟩)), (5, .pointer (some ⟨q, 0, none⟩)), (6, .int .i64 gs.length), (7, .int .i64 x), (8, .pointer (some ⟨b, 0, none⟩))]) ?_ ?_
        · all_goals (repeat' (refine k_block ?_))
          refine k_loop (σ := Nat × Nat × Gst) (fun (k, b, g) h' => MdJ h0 q q4 gs vg k b g h' ∧ k ≤ 4) (fun (k, b, g) => 4 - k) (fun (k, b, g) => [(0, va), (1, vb), (4, .pointer (some ⟨q4, 0, none⟩)), (5, .pointer (some ⟨q, 0, none⟩)), (6, .int .i64 gs.length), (7, .int .i64 x), (8, .pointer (some ⟨b, 0, none⟩)), (9, .int .i64 k)]) (0, b, g) (by repeat (first | exact Ks.le_nil _ | refine Ks.le_cons rfl ?_)) ?_ ?_
          · exact ⟨⟨S, gd, gt⟩, by omega⟩
          clear S gd gt
          rintro ⟨k, b, g⟩ h ⟨⟨S, gd, gt⟩, hk⟩
          all_goals (repeat' (first | refine K_seq ?_ | refine k_cond rfl ?_ | refine K_skip ?_ | refine K_exit ?_ | (refine K_region (id := 14) ?_; refine mv ?_; (first | (refine cS ?_ ?_ <;> intro hc)) <;> (refine KO_nil ?_))))
          · (repeat (refine K_seq ?_)); first | refine K_join1 (σ := Nat × Gst) (fun (b, g) h' => MdJ h0 q q4 gs vg (k + 1) b g h') (fun (b, g) => [(0, va), (1, vb), (4, .pointer (some ⟨q4, 0, none⟩)), (5, .pointer (some ⟨q, 0, none⟩)), (6, .int .i64 gs.length), (7, .int .i64 x), (8, .pointer (some ⟨b, 0, none⟩)), (9, .int .i64 k)]) ?_ ?_
            · all_goals (repeat' (first | refine K_seq ?_ | refine k_block ?_))
              refine K_region (id := 16) ?_; refine mv ?_; refine mv ?_; refine ml ?_; refine ad ?_; refine sR ?_ (hb := by simp; omega)
              obtain ⟨y, hy, hy2⟩ : ∃ y : Int, (x : Int) / ((2 ^ (min (6 + 2 * (k : Int)).toNat IntKind.i64.bits) : Nat) : Int) = y ∧ 0 ≤ y ∧ y ≤ 65536 := ⟨_, rfl, Int.ediv_nonneg (by omega) (by exact_mod_cast Nat.zero_le _), Int.le_trans (Int.ediv_le_self _ (by omega)) (by omega)⟩
              simp only [hy]
              ((refine rm ?_); (first | (refine cS ?_ ?_ <;> intro hc)) <;> (refine KO_nil ?_))
              · all_goals (repeat' (first | refine K_seq ?_ | refine k_cond rfl ?_ | (refine K_region (id := 17) ?_; refine vl ?_; refine lB S rfl rfl ?_; refine mv ?_; refine KO_nil ?_) | (refine K_region (id := 18) ?_; refine mv ?_; refine mv ?_)))
                (refine KO_fn rfl rfl rfl rfl rfl ((number_ok S.wf k (by omega)).mono ?_); rintro _ h ⟨rfl, y⟩) <;> (replace S := S.join0 y; clear y; (refine one 1 S ?_; clear S; intro u h S))
                have hgt := gt.1
                refine app (y0 := num k) S rfl rfl ?_; clear S; intro v h S; obtain ⟨tv, rfl⟩ := S.sV v; ((refine vl ?_); (first | (refine sB S rfl rfl ?_; clear S; intro h S)); refine KO_nil ?_)
                all_goals (repeat' (fail))
                exact ⟨(b, ⟨{ g.toGu with tg := g.tg ++ [num k] }, tv⟩), ⟨S.front (.there .here), gd, gt.app (by omega)⟩, ((by repeat (first | exact Ks.le_nil _ | refine Ks.le_cons rfl ?_)))⟩
              · all_goals (repeat' (first | refine k_cond rfl ?_ | refine K_skip ?_))
                exact ⟨(b, g), ⟨S, gd, gt.next⟩, ((by repeat (first | exact Ks.le_nil _ | refine Ks.le_cons rfl ?_)))⟩
            · clear S gd gt
              rintro ⟨b, g⟩ h ⟨S, gd, gt⟩
              skip
              all_goals (repeat' (first | (refine K_region (id := 15) ?_; refine mv ?_; refine ad ?_; refine mv ?_; refine KO_nil ?_)))
              refine ⟨(k + 1, b, g), ?_, ?_, (by repeat (first | exact Ks.le_nil _ | refine Ks.le_cons rfl ?_))⟩
              · show 4 - (k + 1) < 4 - k; omega
              · exact ⟨⟨S, gd, gt⟩, by omega⟩
          · obtain rfl : k = 4 := by omega
            exact ⟨(b, g), ⟨S, gd, gt⟩, ((by repeat (first | exact Ks.le_nil _ | refine Ks.le_cons rfl ?_)))⟩
        · clear S gd gt
          rintro ⟨b, g⟩ h ⟨S, gd, gt⟩
          skip
          all_goals (repeat' (first | refine K_seq ?_ | (refine K_region (id := 19) ?_; refine vl ?_; refine lB S rfl rfl ?_; refine mv ?_; refine KO_nil ?_) | (refine K_region (id := 20) ?_; refine mv ?_; refine lB S rfl rfl ?_; (refine one 9 S ?_; clear S; intro u h S))))
          refine app (y0 := g) S rfl rfl ?_; clear S; intro v h S; obtain ⟨vg', rfl⟩ := S.sV v; ((refine vl ?_); (first | (refine sB S rfl rfl ?_; clear S; intro h S)); refine KO_nil ?_)
          all_goals (repeat' (first | (refine K_region (id := 4) ?_; refine mv ?_; refine ad ?_; refine mv ?_; refine KO_nil ?_)))
          refine ⟨(gs ++ [g], vg'), ?_, ?_, (by repeat (first | exact Ks.le_nil _ | refine Ks.le_cons rfl ?_ | refine Ks.le_int ?_))⟩
          · show 12 - (gs ++ [g]).length < 12 - gs.length; simp; omega
          · replace S : Hs h0 h [.sl vg'.val 122 9 eG (gs ++ [g]), .blk b (eG g) 122, .sl g.tv.val 9 1 eS g.tg, tgR gs, .blk q [vg'.val, .slice none 0 0] 104, .blk q4 [.slice none 0 0, .slice none 0 0] 104] := S
            have S := (show Hs h0 h (.sl g.tv.val 9 1 eS g.tg :: tgR gs :: .sl vg'.val 122 9 eG (gs ++ [g]) :: .blk q [vg'.val, .slice none 0 0] 104 :: .blk q4 [.slice none 0 0, .slice none 0 0] 104 :: []) from S.pick)
            refine ⟨Hs.tgApp S, by simp; omega, by simp; omega, fun i hi => ?_⟩
            simp at hi
            rcases Nat.lt_or_ge i gs.length with z | z
            · rw [gA1 z]; exact g3 i z
            · obtain rfl : i = gs.length := by omega
              rw [gA2 (Nat.le_refl _), Nat.sub_self]
              exact ⟨gd, gt⟩
    all_goals exact ⟨(gs, vg), ⟨S, g1, g2, g3⟩, ((by repeat (first | exact Ks.le_nil _ | refine Ks.le_cons rfl ?_)))⟩
  · clear S
    rintro ⟨gs, vg⟩ h ⟨S, g1, g2, g3⟩
    obtain ⟨us, hus⟩ : ∃ us, us = gs.map (·.toGu) := ⟨_, rfl⟩
    have hul : us.length = gs.length := by rw [hus]; simp
    have hun : ∀ i, i < us.length → (us.getD i default).name = num (25 * i) := fun i hi => by
      rw [hus, map_getD (by omega)]; exact (g3 i (by omega)).1.1
    have hth : ∀ i, i < 312 → ((∃ m, m < gs.length ∧ (gs.getD m default).name = num i) ↔ i % 25 = 0 ∧ i / 25 < gs.length) := fun i hi => by
      constructor
      · rintro ⟨m, h1, h2⟩
        rw [(g3 m h1).1.1] at h2
        have := num_inj (by omega) (by omega) h2
        omega
      · rintro ⟨h1, h2⟩
        exact ⟨i / 25, h2, by rw [(g3 _ h2).1.1]; congr 1; omega⟩
    have hgat : ∀ i, i < 312 → i % 25 = 0 → i / 25 < gs.length → gat us (num i) ≠ none := fun i hi h1 h2 => by
      rw [gat_mem]
      exact ⟨_, mem_getD (show i / 25 < us.length by omega), by rw [hun _ (by omega)]; congr 1; omega⟩
    have S := S.nilS (e := 152) (z := 3) (enc := eTi)
    replace S : Hs h0 h [.sl (SlV.val ⟨none, 0, 0⟩) 152 3 eTi [], tgR gs, .sl vg.val 122 9 eG gs, .blk q [vg.val, SlV.val ⟨none, 0, 0⟩] 104, .blk q4 [.slice none 0 0, .slice none 0 0] 104] := S
    have S := (show Hs h0 h (MdQ q q4 gs vg [] ⟨none, 0, 0⟩) from S.pick)
    skip
    all_goals (repeat' (first | refine K_seq ?_ | (refine K_region (id := 21) ?_; refine mv ?_; refine KO_nil ?_) | (refine K_region (id := 22) ?_; refine mv ?_; refine KO_nil ?_)))
    (repeat (refine K_seq ?_)); first | refine K_join1 (σ := List Ti × SlV) (fun (ts, vt) h' => Hs h0 h' (MdQ q q4 gs vg ts vt) ∧ TIo us ts 312) (fun (ts, vt) => [(4, .pointer (some ⟨q4, 0, none⟩)), (5, .pointer (some ⟨q, 0, none⟩))]) ?_ ?_
    · all_goals (repeat' (refine k_block ?_))
      refine k_loop (σ := List Ti × SlV × Nat × Nat) (fun (ts, vt, c, i) h' => Hs h0 h' (MdQ q q4 gs vg ts vt) ∧ i ≤ 312 ∧ c ≤ 400 * i ∧ TIo us ts i) (fun (ts, vt, c, i) => 312 - i) (fun (ts, vt, c, i) => [(1, vb), (4, .pointer (some ⟨q4, 0, none⟩)), (5, .pointer (some ⟨q, 0, none⟩)), (12, .int .i64 c), (13, .int .i64 i)]) ([], ⟨none, 0, 0⟩, 0, 0) (by repeat (first | exact Ks.le_nil _ | refine Ks.le_cons rfl ?_)) ?_ ?_
      · exact ⟨S, by omega, by omega, by simp [TS], fun t ht => (by cases ht), fun t ht => (by cases ht), by simp⟩
      clear S
      rintro ⟨ts, vt, c, i⟩ h ⟨S, k1, k2, k3⟩
      all_goals (repeat' (first | refine K_seq ?_ | refine k_cond rfl ?_ | refine K_skip ?_ | refine K_exit ?_ | (refine K_region (id := 23) ?_; refine mv ?_; (first | (refine cS ?_ ?_ <;> intro hc)) <;> (refine KO_nil ?_))))
      · (repeat (refine K_seq ?_)); first | refine K_join1 (σ := List Ti × SlV × Nat) (fun (ts, vt, c) h' => Hs h0 h' (MdQ q q4 gs vg ts vt) ∧ c ≤ 400 * (i + 1) ∧ TIo us ts (i + 1)) (fun (ts, vt, c) => [(1, vb), (4, .pointer (some ⟨q4, 0, none⟩)), (5, .pointer (some ⟨q, 0, none⟩)), (12, .int .i64 c), (13, .int .i64 i)]) ?_ ?_
        · all_goals (repeat' (first | refine K_seq ?_ | refine k_block ?_ | (refine K_region (id := 25) ?_; refine mv ?_; refine ad ?_; refine mv ?_; refine KO_nil ?_)))
          refine k_loop (σ := List Ti × SlV × Nat × Nat) (fun (ts, vt, c, k) h' => Hs h0 h' (MdQ q q4 gs vg ts vt) ∧ (i < k ∧ k ≤ 312) ∧ c ≤ 400 * i + k ∧ TI us ts i k) (fun (ts, vt, c, k) => 312 - k) (fun (ts, vt, c, k) => [(1, vb), (4, .pointer (some ⟨q4, 0, none⟩)), (5, .pointer (some ⟨q, 0, none⟩)), (12, .int .i64 c), (13, .int .i64 i), (14, .int .i64 k)]) (ts, vt, c, i + 1) (by repeat (first | exact Ks.le_nil _ | refine Ks.le_cons rfl ?_)) ?_ ?_
          · exact ⟨S, by omega, by omega, k3.inn _⟩
          clear S k2 k3
          rintro ⟨ts, vt, c, k⟩ h ⟨S, k4, k5, k6⟩
          all_goals (repeat' (first | refine K_seq ?_ | refine k_cond rfl ?_ | refine K_skip ?_ | refine K_exit ?_ | (refine K_region (id := 26) ?_; refine mv ?_; (first | (refine cS ?_ ?_ <;> intro hc)) <;> (refine KO_nil ?_))))
          · (repeat (refine K_seq ?_)); first | refine K_join1 (σ := List Ti × SlV × Nat) (fun (ts, vt, c) h' => Hs h0 h' (MdQ q q4 gs vg ts vt) ∧ c ≤ 400 * i + (k + 1) ∧ TI us ts i (k + 1)) (fun (ts, vt, c) => [(1, vb), (4, .pointer (some ⟨q4, 0, none⟩)), (5, .pointer (some ⟨q, 0, none⟩)), (12, .int .i64 c), (13, .int .i64 i), (14, .int .i64 k)]) ?_ ?_
            · all_goals (repeat' (first | refine K_seq ?_ | refine k_block ?_))
              all_goals (repeat' (first | (refine K_region (id := 28) ?_; refine lB S rfl rfl ?_; refine mv ?_)))
              (refine KO_fn rfl rfl rfl rfl rfl ((there_ok S.wf vg vt gs (Rd.of_sl S .here) (by omega) i (by omega)).mono ?_); rintro _ h ⟨⟨rfl, z1⟩ | ⟨rfl, z1⟩, x⟩) <;> (replace S := S.join0 x; clear x; refine vl ?_; refine KO_nil ?_)
              · rw [hth i (by omega)] at z1
                all_goals (repeat' (first | refine K_seq ?_ | refine k_cond rfl ?_ | refine K_skip ?_))
                all_goals (repeat' (first | (refine K_region (id := 29) ?_; refine lB S rfl rfl ?_; refine mv ?_)))
                (refine KO_fn rfl rfl rfl rfl rfl ((there_ok S.wf vg vt gs (Rd.of_sl S .here) (by omega) k (by omega)).mono ?_); rintro _ h ⟨⟨rfl, z2⟩ | ⟨rfl, z2⟩, x⟩) <;> (replace S := S.join0 x; clear x; refine vl ?_; refine KO_nil ?_)
                · rw [hth k (by omega)] at z2
                  all_goals (repeat' (first | refine K_seq ?_ | refine k_cond rfl ?_ | refine K_skip ?_))
                  (repeat (refine K_seq ?_)); first | refine K_join (σ := List Ti × SlV) (fun (ts, vt) h' => Hs h0 h' (MdQ q q4 gs vg ts vt) ∧ TI us ts i (k + 1)) (fun (ts, vt) => [(1, vb), (4, .pointer (some ⟨q4, 0, none⟩)), (5, .pointer (some ⟨q, 0, none⟩)), (12, .int .i64 c), (13, .int .i64 i), (14, .int .i64 k)]) ?_ ?_
                  · all_goals (repeat' (first | refine K_seq ?_ | refine k_cond rfl ?_ | refine K_skip ?_ | (refine K_region (id := 30) ?_; refine mv ?_; refine mv ?_; refine lnB S ?_; (first | (refine cS ?_ ?_ <;> intro hc)) <;> (refine mv ?_; (first | refine off ?_ | refine mv ?_); (first | refine off ?_ | refine mv ?_); (first | refine off ?_ | (refine ixB S ?_)); (first | refine off ?_ | (refine lEB S ?_)); (first | refine off ?_ | refine rmU ?_); (first | refine off ?_ | (first | (refine cS ?_ ?_ <;> intro hc))) <;> (refine vl ?_; refine KO_nil ?_))) | (refine K_region (id := 31) ?_; refine vl ?_; refine lB S rfl rfl ?_; refine mv ?_; refine KO_nil ?_)))
                    · have h8c := h8 c (by omega)
                      simp only [Int.toNat_natCast] at *
                      (repeat (refine K_seq ?_)); refine K_drawX (id := 32) [(8, (0, 2))] [some (blkS vb)] ?_; refine KX_cons ?_; (first | (refine mv ?_ <;> refine KO_nil ⟨⟨by (first | exact True.intro), rfl⟩, ?_⟩)); refine KX_cons ?_; (first | (refine mv ?_ <;> refine KO_nil ⟨⟨by (first | exact True.intro), rfl⟩, ?_⟩))
                      ((refine KX_cons ?_; first | refine KO_fn rfl rfl rfl rfl rfl ((number_ok S.wf i (by omega)).mono ?_)); rintro _ h ⟨rfl, x⟩) <;> ((refine KO_nil ⟨⟨True.intro, ?_⟩, ?_⟩; (focus ((show keepsX _ _ _ _ _; simp only [keepsX]; (repeat' (first | exact True.intro | refine And.intro ?_ ?_)); all_goals (intro hw; first | exact x.ext.old _ (S.bX (by assumption) (by assumption) (by first | omega))))))); replace S := S.join0 x; clear x; refine KX_cons ?_; (first | (refine mv ?_ <;> refine KO_nil ⟨⟨by (first | exact True.intro), rfl⟩, ?_⟩)))
                      ((refine KX_cons ?_; first | refine KO_fn rfl rfl rfl rfl rfl ((number_ok S.wf k (by omega)).mono ?_)); rintro _ h ⟨rfl, x⟩) <;> ((refine KO_nil ⟨⟨True.intro, ?_⟩, ?_⟩; (focus ((show keepsX _ _ _ _ _; simp only [keepsX]; (repeat' (first | exact True.intro | refine And.intro ?_ ?_)); all_goals (intro hw; first | exact x.ext.old _ (S.bX (by assumption) (by assumption) (by first | omega))))))); replace S := S.join0 x; clear x; refine KX_cons ?_; (first | (refine mv ?_ <;> refine KO_nil ⟨⟨by (first | exact True.intro), rfl⟩, ?_⟩)); refine KX_cons ?_; (first | (refine mv ?_ <;> refine KO_nil ⟨⟨by (first | exact True.intro), rfl⟩, ?_⟩)); refine KX_cons ?_; (first | (refine ixB S ?_ <;> refine KO_nil ⟨⟨by (first | exact True.intro), rfl⟩, ?_⟩)); refine KX_cons ?_; (first | (refine lEB S ?_ <;> refine KO_nil ⟨⟨by (first | exact Or.inr (congrArg some (blkOf_elA _ _ _ _))), rfl⟩, ?_⟩)); refine KX_cons ?_; (first | (refine rmU ?_ <;> refine KO_nil ⟨⟨by (first | exact True.intro), rfl⟩, ?_⟩)); refine KX_cons ?_; (first | (refine aU ?_ <;> refine KO_nil ⟨⟨by (first | exact True.intro), rfl⟩, ?_⟩)); refine KX_cons ?_; (first | (refine vl ?_ <;> refine KO_nil ⟨⟨by (first | exact True.intro), rfl⟩, ?_⟩)); refine KX_cons ?_; (first | ((refine one 3 S ?_; have S0 := S; clear S; intro u h S); refine KO_nil ⟨⟨True.intro, ?_⟩, ?_⟩; (focus ((show keepsX _ _ _ _ _; simp only [keepsX]; (repeat' (first | exact True.intro | refine And.intro ?_ ?_)); all_goals (intro hw; first | exact absurd hw (by decide +kernel))))); clear S0)))
                      have htl := k6.2.2.2
                      have htl2 : ts.length ≤ 1000 := by split at htl <;> omega
                      refine KX_cons ?_; refine app (y0 := ⟨num i, num k, 1 + ((lb.getD c default : Nat) : Int) % 4⟩) S rfl rfl ?_; have S0 := S; clear S; intro v h S; obtain ⟨vt', rfl⟩ := S.sV v; refine KO_nil ⟨⟨True.intro, ?_⟩, ?_⟩; (focus ((show keepsX _ _ _ _ _; simp only [keepsX]; (repeat' (first | exact True.intro | refine And.intro ?_ ?_)); all_goals (intro hw; first | exact absurd hw (by decide +kernel))))); clear S0; (refine KX_cons ?_; (first | (refine vl ?_ <;> refine KO_nil ⟨⟨by (first | exact True.intro), rfl⟩, ?_⟩)); refine KX_cons ?_; (first | ((refine sB S rfl rfl ?_; have S0 := S; clear S; intro h S); refine KO_nil ⟨⟨True.intro, ?_⟩, ?_⟩; (focus ((show keepsX _ _ _ _ _; simp only [keepsX]; (repeat' (first | exact True.intro | refine And.intro ?_ ?_)); all_goals (intro hw; first | exact absurd hw (by decide +kernel))))); clear S0)); refine KX_nil ?_)
                      all_goals (repeat' (fail))
                      replace S : Hs h0 h [.sl vt'.val 152 3 eTi (ts ++ [⟨num i, num k, 1 + ((lb.getD c default : Nat) : Int) % 4⟩]), .sl vg.val 122 9 eG gs, .blk q4 [.slice none 0 0, .slice none 0 0] 104, tgR gs, .blk q [vg.val, vt'.val] 104] := S
                      exact ⟨(_, vt'), ⟨S.pick, k6.app (z := 1 + ((lb.getD c default : Nat) : Int) % 4) k4.1 (by omega) (by omega) z1.1 z2.1 (hgat i (by omega) z1.1 z1.2) (hgat k (by omega) z2.1 z2.2)⟩, ((by repeat (first | exact Ks.le_nil _ | refine Ks.le_cons rfl ?_)))⟩
                    all_goals
                      all_goals (repeat' (fail))
                      exact ⟨(ts, vt), ⟨S, k6.next (by omega)⟩, ((by repeat (first | exact Ks.le_nil _ | refine Ks.le_cons rfl ?_)))⟩
                  · clear S
                    rintro ⟨ts, vt⟩ h ⟨S, k6⟩
                    skip
                    all_goals (repeat' (first | (refine K_region (id := 33) ?_; refine mv ?_; refine ad ?_; refine mv ?_; refine KO_nil ?_)))
                    exact ⟨(ts, vt, c + 1), ⟨S, by omega, k6⟩, ((by repeat (first | exact Ks.le_nil _ | refine Ks.le_cons rfl ?_)))⟩
                · all_goals (repeat' (first | refine k_cond rfl ?_ | refine K_exit ?_))
                  exact ⟨(ts, vt, c), ⟨S, by omega, k6.next (by omega)⟩, ((by repeat (first | exact Ks.le_nil _ | refine Ks.le_cons rfl ?_)))⟩
              · all_goals (repeat' (first | refine k_cond rfl ?_ | refine K_exit ?_))
                exact ⟨(ts, vt, c), ⟨S, by omega, k6.out (by omega) (by omega)⟩, ((by repeat (first | exact Ks.le_nil _ | refine Ks.le_cons rfl ?_)))⟩
            · clear S k5 k6
              rintro ⟨ts, vt, c⟩ h ⟨S, k5, k6⟩
              skip
              all_goals (repeat' (first | (refine K_region (id := 27) ?_; refine mv ?_; refine ad ?_; refine mv ?_; refine KO_nil ?_)))
              refine ⟨(ts, vt, c, k + 1), ?_, ?_, (by repeat (first | exact Ks.le_nil _ | refine Ks.le_cons rfl ?_))⟩
              · show 312 - (k + 1) < 312 - k; omega
              · exact ⟨S, by omega, by omega, k6⟩
          · exact ⟨(ts, vt, c), ⟨S, by omega, k6.out (by omega) (by omega)⟩, ((by repeat (first | exact Ks.le_nil _ | refine Ks.le_cons rfl ?_)))⟩
        · clear S k2 k3
          rintro ⟨ts, vt, c⟩ h ⟨S, k2, k3⟩
          skip
          all_goals (repeat' (first | (refine K_region (id := 24) ?_; refine mv ?_; refine ad ?_; refine mv ?_; refine KO_nil ?_)))
          refine ⟨(ts, vt, c, i + 1), ?_, ?_, (by repeat (first | exact Ks.le_nil _ | refine Ks.le_cons rfl ?_))⟩
          · show 312 - (i + 1) < 312 - i; omega
          · exact ⟨S, by omega, by omega, k3⟩
      · obtain rfl : i = 312 := by omega
        exact ⟨(ts, vt), ⟨S, k3⟩, ((by repeat (first | exact Ks.le_nil _ | refine Ks.le_cons rfl ?_)))⟩
    · clear S
      rintro ⟨ts, vt⟩ h ⟨S, k3⟩
      skip
      all_goals (repeat' (first | refine K_seq ?_ | (refine K_region (id := 34) ?_; refine lB S rfl rfl ?_; (first | (refine sB S rfl rfl ?_; clear S; intro h S)); refine KO_nil ?_)))
      refine K_ret ⟨_, ret_cell S rfl (by first | exact .there .here) (by exact rfl) (by exact rfl), ?_⟩
      obtain ⟨fp, ht⟩ := S.anyP (.there (.there .here))
      refine ⟨⟨vg, vt, gs⟩, ⟨us, ts⟩, rfl, ⟨Rd.of_sl S .here, Rd.of_sl S (.there (.there (.there (.there .here)))), fun i hi => ⟨TgsOk.rd ht hi, ?_⟩, hus.symm, ?_, ?_⟩, ⟨fun g hg => ?_, fun i j hij hj => ?_, ?_, k3.1, k3.2.1, ?_⟩, ⟨?_, (by show us.length ≤ _; omega), hun⟩, (show Hs h0 _ [.sl vg.val 122 9 eG gs, .sl vt.val 152 3 eTi ts, tgR gs] from S.pick)⟩
      · have := (g3 i hi).2.1; show (gs.getD i default).tg.length ≤ _; omega
      · show us.length ≤ _; omega
      · have := k3.2.2.2; show ts.length ≤ _; omega
      · obtain ⟨i, hi, rfl⟩ := mem_iff_getD.1 hg
        rw [hus, map_getD (show i < gs.length by rw [← hul]; exact hi)]
        exact Md_chk (g3 i (by rw [← hul]; exact hi)).1 (g3 i (by rw [← hul]; exact hi)).2
      · replace hj : j < us.length := hj
        rw [hun i (by omega), hun j hj]
        intro q
        have := num_inj (by omega) (by omega) q
        omega
      · show us.length ≤ _; omega
      · have := k3.2.2.2; show ts.length ≤ _; omega
      · show us.length ≤ _; omega
end Go.Proofs.Xx

/-
  Tables of numbers.
-/
namespace Go.Proofs.Xx
open Go Go.Proofs
set_option linter.unusedSimpArgs false
set_option linter.unusedVariables false
set_option linter.unusedSectionVars false
set_option maxRecDepth 100000
set_option maxHeartbeats 4000000

def wordT (k : Nat) : List UInt8 := [116, UInt8.ofNat (97 + k % 26)]
theorem wordT_name (k : Nat) : nameP (wordT k) := by
  refine ⟨by simp [wordT], by simp [wordT], fun i hi => ?_⟩
  have h2 : k % 26 < 26 := Nat.mod_lt _ (by decide)
  have hi : i < 2 := by simpa [wordT] using hi
  rcases (show i = 0 ∨ i = 1 by omega) with rfl | rfl
  · show lowB 116
    unfold lowB; decide
  · show lowB (UInt8.ofNat (97 + k % 26))
    unfold lowB; rw [UInt8.toNat_ofNat', Nat.mod_eq_of_lt (by omega)]; omega
theorem wordT_inj {i j : Nat} (hi : i < 26) (hj : j < 26) (h : wordT i = wordT j) : i = j := by
  unfold wordT at h
  have h1 := congrArg UInt8.toNat (List.cons.inj (List.cons.inj h).2).1
  rw [UInt8.toNat_ofNat', UInt8.toNat_ofNat', Nat.mod_eq_of_lt (by omega), Nat.mod_eq_of_lt (by omega)] at h1
  omega
theorem tword_ok {h0 : AH} (w : WfH h0) (j : Nat) (hj : j ≤ 1000000) : Fn Tryz.prog Xh 90 [.int .i64 j] h0 (fun v h' => v = str (wordT j) ∧ Hs h0 h' []) := by
  have S := Hs.start w
  refine Fn_K (by first | rfl) Tryz.func90 rfl rfl ?_
  all_goals (repeat' (first | refine K_seq ?_ | (refine K_region (id := 0) ?_; refine mv ?_; refine KO_nil ?_) | (refine K_region (id := 1) ?_; refine mv ?_; refine rm ?_; refine ad ?_; refine cU ?_)))
  refine bsn (α := Nat) (z := 1) eU [116, 97 + j % 26] S ?_; clear S; intro u h S
  refine bS (Rd.of_sl S .here) ?_
  (refine mv ?_; refine KO_nil ?_)
  all_goals (repeat' (fail))
  refine K_ret ⟨_, rfl, ?_⟩
  exact ⟨rfl, S.drop⟩
/-- How many seats a table has, whatever it is. -/
def tsz (s a b : Int) : Int := if s = 2 then 2 * a + b else if s = 3 then a + 2 * b else a
theorem tsz_eq {t : Tab} (h : chk t = 0) : tsz t.shape t.A t.B = tsize t := by
  have h2 : tsize t ≠ 0 := fun q => by
    unfold chk at h
    split at h
    all_goals first | omega
  unfold tsize sizeOf1 roundSize longSize shoeSize rowSize at h2 ⊢
  unfold tsz
  repeat' split
  all_goals simp_all
theorem tsize2_ok {h0 : AH} (w : WfH h0) (t : Tab) (hA : -100 ≤ t.A ∧ t.A ≤ 100) (hB : -100 ≤ t.B ∧ t.B ≤ 100) : Fn Tryz.prog Xh 58 [tabV t] h0 (fun v h' => v = .int .i64 (tsz t.shape t.A t.B) ∧ Hs h0 h' []) := by
  have S := Hs.start w
  refine Fn_K (by first | rfl) Tryz.func58 rfl rfl ?_
  all_goals (repeat' (first | refine K_seq ?_ | refine k_cond rfl ?_ | refine K_skip ?_ | refine k_block ?_ | (refine K_region (id := 0) ?_; (refine bx S ?_; clear S; intro b h S); refine mv ?_; refine KO_nil ?_) | (refine K_region (id := 1) ?_; refine vl ?_; refine lB S rfl rfl ?_; refine KO_nil ?_) | (refine K_region (id := 2) ?_; (first | (refine cS ?_ ?_ <;> intro hc)) <;> (refine mv ?_; refine KO_nil ?_)) | (refine K_region (id := 3) ?_; refine vl ?_; refine lB S rfl rfl ?_; refine ml ?_; refine vl ?_; refine lB S rfl rfl ?_; refine ad ?_; refine mv ?_; refine KO_nil ?_) | (refine K_region (id := 4) ?_; (first | (refine cS ?_ ?_ <;> intro hc)) <;> (refine mv ?_; refine KO_nil ?_)) | (refine K_region (id := 5) ?_; refine vl ?_; refine lB S rfl rfl ?_; refine vl ?_; refine lB S rfl rfl ?_; refine ml ?_; refine ad ?_; refine mv ?_; refine KO_nil ?_) | (refine K_region (id := 6) ?_; refine vl ?_; refine lB S rfl rfl ?_; refine mv ?_; refine KO_nil ?_)))
  all_goals (refine K_ret ⟨_, rfl, ?_⟩)
  all_goals (refine ⟨?_, S.drop⟩; unfold tsz; first | (rw [if_pos (by assumption)]; rfl) | (rw [if_neg (by assumption), if_pos (by assumption)]; rfl) | (rw [if_neg (by assumption), if_neg (by assumption)]; rfl))
/-- What is known of a table of numbers. -/
structure TabM (i x : Nat) (t : Tab) : Prop where
  name : t.name = wordT i
  sh : 1 ≤ t.shape ∧ t.shape ≤ 4
  X : t.X = x
  Y : t.Y = 255 - x
  A : 1 ≤ t.A ∧ t.A ≤ 6
  B : 0 ≤ t.B ∧ t.B ≤ 6
  sz : tsize t = tsz t.shape t.A t.B ∧ 1 ≤ tsize t
def GoodAB (s A B : Int) : Prop := (1 ≤ A ∧ A ≤ 6) ∧ (0 ≤ B ∧ B ≤ 6) ∧ 1 ≤ sizeOf1 s A B ∧ sizeOf1 s A B = tsz s A B
theorem goodAB (s A B : Int) (h : (s = 1 ∧ 1 ≤ A ∧ A ≤ 6 ∧ B = 0) ∨ (s = 2 ∧ 1 ≤ A ∧ A ≤ 3 ∧ 0 ≤ B ∧ B ≤ 2) ∨ (s = 3 ∧ 1 ≤ A ∧ A ≤ 2 ∧ 1 ≤ B ∧ B ≤ 2) ∨ (s = 4 ∧ 1 ≤ A ∧ A ≤ 5 ∧ 0 ≤ B ∧ B ≤ A)) : GoodAB s A B := by
  unfold GoodAB sizeOf1 tsz roundSize longSize shoeSize rowSize
  rcases h with ⟨rfl, h⟩ | ⟨rfl, h⟩ | ⟨rfl, h⟩ | ⟨rfl, h⟩
  all_goals (refine ⟨by omega, by omega, ?_, ?_⟩ <;> (repeat' split) <;> omega)
/-- A table of numbers. -/
abbrev tnM (i m : Nat) (A B : Int) (os : SlV) (l : List Int) : Tab := ⟨wordT i, 1 + (m : Int) % 4, A, B, os, l, m, 255 - m⟩
theorem table_ok {h0 : AH} (w : WfH h0) (i m : Nat) (hi : i < 26) (hm : m < 256) : Fn Tryz.prog Xh 57 [.int .i64 i, .int .i64 m] h0 (fun v h' => ∃ t : Tab, v = tabV t ∧ TabM i m t ∧ chk t = 0 ∧ t.opn.length ≤ 24 ∧ Hs h0 h' [.sl t.ov 3 1 eI t.opn]) := by
  have S := Hs.start w
  refine Fn_K (by first | rfl) Tryz.func57 rfl rfl ?_
  all_goals (repeat' (first | refine K_seq ?_ | (refine K_region (id := 0) ?_; (refine al S ?_; clear S; intro b h S); refine KO_nil ?_) | (refine K_region (id := 1) ?_; refine mv ?_)))
  obtain ⟨b4, hnm⟩ : ∃ x, x = b := ⟨_, rfl⟩; subst hnm
  (refine KO_fn rfl rfl rfl rfl rfl ((tword_ok S.wf i (by omega)).mono ?_); rintro _ h ⟨rfl, x⟩) <;> (replace S := S.join0 x; clear x; refine mv ?_; refine rm ?_; refine ad ?_; refine cU ?_; refine mv ?_; refine mv ?_; refine sb ?_; refine vl ?_; (refine al S ?_; clear S; intro b h S); (first | (refine sB S rfl rfl ?_; clear S; intro h S)); refine KO_nil ?_)
  all_goals (repeat' (first | refine K_seq ?_ | (refine K_region (id := 2) ?_; refine mv ?_; refine qu ?_; refine mv ?_; refine KO_nil ?_) | (refine K_region (id := 3) ?_; refine vl ?_; refine lB S rfl rfl ?_; refine KO_nil ?_)))
  replace S : Hs h0 h [.blk b (eT (tnM i m 0 0 ⟨none, 0, 0⟩ [])) 76, .blk b4 (eT default) 76] := S
  (repeat (refine K_seq ?_)); first | refine K_join1 (σ := Int × Int) (fun (A, B) h' => Hs h0 h' [.blk b (eT (tnM i m A B ⟨none, 0, 0⟩ [])) 76, .blk b4 (eT default) 76] ∧ GoodAB (1 + (m : Int) % 4) A B) (fun (A, B) => [(1, .int .i64 m), (4, .pointer (some ⟨b4, 0, none⟩)), (5, .pointer (some ⟨b, 0, none⟩))]) ?_ ?_
  · all_goals (repeat' (first | refine K_seq ?_ | refine k_cond rfl ?_ | refine k_block ?_ | (refine K_region (id := 4) ?_; (first | (refine cS ?_ ?_ <;> intro hc)) <;> (refine mv ?_; refine KO_nil ?_)) | (refine K_region (id := 5) ?_; refine mv ?_; refine rm ?_; refine ad ?_; refine vl ?_; (first | (refine sB S rfl rfl ?_; clear S; intro h S)); refine KO_nil ?_) | (refine K_region (id := 6) ?_; (first | (refine cS ?_ ?_ <;> intro hc)) <;> (refine mv ?_; refine KO_nil ?_)) | (refine K_region (id := 7) ?_; refine mv ?_; refine rm ?_; refine ad ?_; refine mv ?_; refine qu ?_; refine rm ?_; refine vl ?_; (first | (refine sB S rfl rfl ?_; clear S; intro h S)); refine vl ?_; (first | (refine sB S rfl rfl ?_; clear S; intro h S)); refine KO_nil ?_) | (refine K_region (id := 8) ?_; (first | (refine cS ?_ ?_ <;> intro hc)) <;> (refine mv ?_; refine KO_nil ?_)) | (refine K_region (id := 9) ?_; refine mv ?_; refine rm ?_; refine ad ?_; refine mv ?_; refine qu ?_; refine rm ?_; refine ad ?_; refine vl ?_; (first | (refine sB S rfl rfl ?_; clear S; intro h S)); refine vl ?_; (first | (refine sB S rfl rfl ?_; clear S; intro h S)); refine KO_nil ?_) | (refine K_region (id := 10) ?_; (refine cT ?_) <;> (refine mv ?_; refine KO_nil ?_)) | (refine K_region (id := 11) ?_; refine mv ?_; refine rm ?_; refine ad ?_; refine vl ?_; (first | (refine sB S rfl rfl ?_; clear S; intro h S)); refine KO_nil ?_) | (refine K_region (id := 12) ?_; refine vl ?_; refine lB S rfl rfl ?_; refine mv ?_; refine qu ?_; refine rm ?_; refine mn ?_; refine vl ?_; (first | (refine sB S rfl rfl ?_; clear S; intro h S)); refine KO_nil ?_)))
    · exact ⟨(1 + (m : Int) / 4 % 6, 0), ⟨S, goodAB _ _ _ (.inl (by omega))⟩, ((by repeat (first | exact Ks.le_nil _ | refine Ks.le_cons rfl ?_)))⟩
    · exact ⟨(1 + (m : Int) / 4 % 3, (m : Int) / 4 / 3 % 3), ⟨S, goodAB _ _ _ (.inr (.inl (by omega)))⟩, ((by repeat (first | exact Ks.le_nil _ | refine Ks.le_cons rfl ?_)))⟩
    · exact ⟨(1 + (m : Int) / 4 % 2, 1 + (m : Int) / 4 / 2 % 2), ⟨S, goodAB _ _ _ (.inr (.inr (.inl (by omega))))⟩, ((by repeat (first | exact Ks.le_nil _ | refine Ks.le_cons rfl ?_)))⟩
    · exact ⟨(1 + (m : Int) / 4 % 5, min (1 + (m : Int) / 4 % 5) ((m : Int) / 4 / 5 % 4)), ⟨S, goodAB _ _ _ (.inr (.inr (.inr (by omega))))⟩, ((by repeat (first | exact Ks.le_nil _ | refine Ks.le_cons rfl ?_)))⟩
  clear S
  rintro ⟨A, B⟩ h ⟨S, hAB⟩
  obtain ⟨hA, hB, h1, h2⟩ := hAB
  replace S := S.nilS (e := 3) (z := 1) (enc := eI)
  skip
  all_goals (repeat' (first | refine K_seq ?_ | refine k_block ?_ | (refine K_region (id := 13) ?_; refine mv ?_; refine KO_nil ?_)))
  have hsz : sizeOf1 (1 + (m : Int) % 4) A B ≤ 24 := (tsize_le (tnM i m A B ⟨none, 0, 0⟩ [])).2
  refine k_loop (σ := Nat × SlV × List Int) (fun (k, os, l) h' => Hs h0 h' [.sl os.val 3 1 eI l, .blk b (eT (tnM i m A B os l)) 76, .blk b4 (eT default) 76] ∧ (k : Int) ≤ tsz (1 + (m : Int) % 4) A B ∧ l.length ≤ k ∧ (∀ j, j < l.length → 0 ≤ l.getD j default ∧ l.getD j default < k) ∧ ∀ j, j < l.length → 0 < j → l.getD (j - 1) default < l.getD j default) (fun (k, os, l) => 24 - k) (fun (k, os, l) => [(1, .int .i64 m), (4, .pointer (some ⟨b4, 0, none⟩)), (5, .pointer (some ⟨b, 0, none⟩)), (7, .int .i64 k)]) (0, ⟨none, 0, 0⟩, []) (by repeat (first | exact Ks.le_nil _ | refine Ks.le_cons rfl ?_)) ?_ ?_
  · exact ⟨S, by omega, Nat.zero_le _, fun j hj => absurd hj (Nat.not_lt_zero _), fun j hj => absurd hj (Nat.not_lt_zero _)⟩
  clear S
  rintro ⟨k, os, l⟩ h ⟨S, g1, g2, g3, g4⟩
  have hA2 : -100 ≤ (tnM i m A B os l).A ∧ (tnM i m A B os l).A ≤ 100 := ⟨by show -100 ≤ A; omega, by show A ≤ 100; omega⟩
  have hB2 : -100 ≤ (tnM i m A B os l).B ∧ (tnM i m A B os l).B ≤ 100 := ⟨by show -100 ≤ B; omega, by show B ≤ 100; omega⟩
  have hsame : tsz (tnM i m A B os l).shape (tnM i m A B os l).A (tnM i m A B os l).B = tsz (1 + (m : Int) % 4) A B := rfl
  all_goals (repeat' (first | refine K_seq ?_ | (refine K_region (id := 14) ?_; refine mv ?_; refine lB S rfl rfl ?_)))
  (refine KO_fn rfl rfl rfl rfl rfl ((tsize2_ok S.wf (tnM i m A B os l) hA2 hB2).mono ?_); rintro _ h ⟨rfl, x⟩) <;> (replace S := S.join0 x; clear x; (first | (refine cS ?_ ?_ <;> intro hc)) <;> (refine KO_nil ?_))
  all_goals (repeat' (first | refine K_seq ?_ | refine k_cond rfl ?_ | refine K_skip ?_ | refine K_exit ?_ | refine k_block ?_ | (refine K_region (id := 16) ?_; refine mv ?_; refine mv ?_; refine sR ?_; refine rm ?_; (first | (refine cS ?_ ?_ <;> intro hc)) <;> (refine mv ?_; (first | refine off ?_ | refine mv ?_); (first | refine off ?_ | (refine rm ?_)); (first | refine off ?_ | (first | (refine cS ?_ ?_ <;> intro hc))) <;> (refine vl ?_; refine KO_nil ?_))) | (refine K_region (id := 17) ?_; refine vl ?_; refine lB S rfl rfl ?_; refine mv ?_; refine KO_nil ?_) | (refine K_region (id := 18) ?_; refine mv ?_; refine mv ?_; (refine one 1 S ?_; clear S; intro u h S))))
  · refine app  S rfl rfl ?_; clear S; intro v h S; obtain ⟨os', rfl⟩ := S.sV v; refine vl ?_; (first | (refine sB S rfl rfl ?_; clear S; intro h S)); refine KO_nil ?_
    all_goals (repeat' (first | (refine K_region (id := 15) ?_; refine mv ?_; refine ad ?_; refine mv ?_; refine KO_nil ?_)))
    refine ⟨(k + 1, os', l ++ [(k : Int)]), ?_, ?_, (by repeat (first | exact Ks.le_nil _ | refine Ks.le_cons rfl ?_))⟩
    · show 24 - (k + 1) < 24 - k; omega
    · refine ⟨S, by omega, by simp; omega, fun j hj => ?_, fun j hj h0 => ?_⟩
      · simp at hj
        rcases Nat.lt_or_ge j l.length with q | q
        · rw [gA1 q]; have := g3 j q; omega
        · rw [gA2 q, show j - l.length = 0 by omega]; show 0 ≤ (k : Int) ∧ (k : Int) < ((k + 1 : Nat) : Int); omega
      · simp at hj
        rw [gA1 (show j - 1 < l.length by omega)]
        rcases Nat.lt_or_ge j l.length with q | q
        · rw [gA1 q]; exact g4 j q h0
        · rw [gA2 q, show j - l.length = 0 by omega]; exact (g3 (j - 1) (by omega)).2
  · all_goals (repeat' (first | (refine K_region (id := 15) ?_; refine mv ?_; refine ad ?_; refine mv ?_; refine KO_nil ?_)))
    refine ⟨(k + 1, os, l), ?_, ?_, (by repeat (first | exact Ks.le_nil _ | refine Ks.le_cons rfl ?_))⟩
    · show 24 - (k + 1) < 24 - k; omega
    · exact ⟨S, by omega, by omega, fun j hj => by have := g3 j hj; omega, g4⟩
  · all_goals (repeat' (first | (refine K_region (id := 15) ?_; refine mv ?_; refine ad ?_; refine mv ?_; refine KO_nil ?_)))
    refine ⟨(k + 1, os, l), ?_, ?_, (by repeat (first | exact Ks.le_nil _ | refine Ks.le_cons rfl ?_))⟩
    · show 24 - (k + 1) < 24 - k; omega
    · exact ⟨S, by omega, by omega, fun j hj => by have := g3 j hj; omega, g4⟩
  · all_goals (repeat' (first | (refine K_region (id := 19) ?_; refine lB S rfl rfl ?_; (first | (refine sB S rfl rfl ?_; clear S; intro h S)); refine KO_nil ?_)))
    refine K_ret ⟨_, ret_cell S rfl (by first | exact .there (.there .here)) (by exact rfl) (by exact rfl), ?_⟩
    have hts : tsize (tnM i m A B os l) = tsz (1 + (m : Int) % 4) A B := h2
    refine ⟨tnM i m A B os l, rfl, ⟨rfl, ⟨by show 1 ≤ 1 + (m : Int) % 4; omega, by show 1 + (m : Int) % 4 ≤ 4; omega⟩, rfl, rfl, hA, hB, ⟨hts, by omega⟩⟩, ?_, by show l.length ≤ 24; omega, ?_⟩
    · unfold chk
      rw [if_neg (fun q => q (wordT_name i)), if_neg (by omega), if_neg, if_neg]
      · exact fun q => q ⟨by show 0 ≤ (m : Int); omega, by show (m : Int) ≤ 1000; omega, by show 0 ≤ 255 - (m : Int); omega, by show 255 - (m : Int) ≤ 1000; omega⟩
      · refine fun q => q fun j hj => ⟨⟨(g3 j hj).1, ?_⟩, g4 j hj⟩
        have := (g3 j hj).2
        show l.getD j default < _
        omega
    · exact S.only .here
end Go.Proofs.Xx

/-
  Rules of numbers.
-/
namespace Go.Proofs.Xx
open Go Go.Proofs
set_option linter.unusedSimpArgs false
set_option linter.unusedVariables false
set_option linter.unusedSectionVars false
set_option maxRecDepth 100000
set_option maxHeartbeats 4000000

theorem err_0 {k : Kd} {p : Pb} {r : Ru} (h1 : 0 ≤ r.w ∧ r.w ≤ 1000) (h2 : k.plain r) (h3 : ¬ k.unk p.us r) (h4 : ¬ (k.a = 100 ∧ ¬ nameP r.a)) (h5 : ¬ (k.b = true ∧ r.a = r.b)) (h6 : ¬ k.ut p.tabs r) (h7 : ¬ (k.n = true ∧ (r.n < k.lo ∨ k.most p.tabs r < r.n))) : k.err p r = 0 := by
  unfold Kd.err
  rw [if_neg (by omega), if_neg (fun q => q h2), if_neg h3, if_neg h4, if_neg h5, if_neg h6, if_neg h7]
theorem ruE_two {p : Pb} {k w n : Int} {a b : List UInt8} (hk : 1 ≤ k ∧ k ≤ 5) (hw : 0 ≤ w ∧ w ≤ 1000) (ha : gat p.us a ≠ none) (hb : gat p.us b ≠ none) (hab : a ≠ b) (hn : (k = 1 ∧ 0 ≤ n ∧ n ≤ 24) ∨ (k = 4 ∧ 1 ≤ n ∧ n ≤ 24) ∨ ((k = 2 ∨ k = 3 ∨ k = 5) ∧ n = 0)) : ruE p ⟨k, w, a, b, [], n⟩ = 0 := by
  unfold ruE
  rw [if_pos (by simp only; omega)]
  have : k = 1 ∨ k = 2 ∨ k = 3 ∨ k = 4 ∨ k = 5 := by omega
  rcases this with rfl | rfl | rfl | rfl | rfl
  all_goals (refine err_0 hw ?_ ?_ ?_ ?_ ?_ ?_ <;> simp [kdOf, kdL, Kd.plain, Kd.unk, Kd.ut, Kd.most, ha, hb, hab] <;> omega)
theorem hasT_tix {l : List Tab} {j : Nat} (h : ValidL l) (hj : j < l.length) : tix l (tb l j).name = j := tix_eq hj rfl fun i hi q => (h.2 j hj).2 ⟨i, hi, q⟩
theorem ruE_at {p : Pb} {k w n : Int} {a t : List UInt8} (hk : k = 6 ∨ k = 7) (hw : 0 ≤ w ∧ w ≤ 1000) (ha : gat p.us a ≠ none) (hT : hasT p.tabs t) (hn : (k = 6 ∧ n = 0) ∨ (k = 7 ∧ 0 ≤ n ∧ n < tsize (tb p.tabs (tix p.tabs t)))) : ruE p ⟨k, w, a, [], t, n⟩ = 0 := by
  have hm : ∀ K : Kd, K.most p.tabs ⟨k, w, a, [], t, n⟩ = if K.seat = true then tsize (tb p.tabs (tix p.tabs t)) - 1 else 24 := fun K => rfl
  generalize tsize (tb p.tabs (tix p.tabs t)) = M at hn hm
  unfold ruE
  rw [if_pos (by simp only; omega)]
  rcases hk with rfl | rfl
  all_goals (refine err_0 hw ?_ ?_ ?_ ?_ ?_ ?_ <;> simp [kdOf, kdL, Kd.plain, Kd.unk, Kd.ut, hm, ha, hT] <;> omega)
theorem ruE_reach {p : Pb} {w : Int} {a : List UInt8} (hw : 0 ≤ w ∧ w ≤ 1000) (ha : a = [] ∨ gat p.us a ≠ none) : ruE p ⟨10, w, a, [], [], 0⟩ = 0 := by
  unfold ruE
  rw [if_pos (by simp only; omega)]
  refine err_0 hw ?_ ?_ ?_ ?_ ?_ ?_ <;> simp [kdOf, kdL, Kd.plain, Kd.unk, Kd.ut, Kd.most]
  rcases ha with ha | ha
  · exact fun q => absurd ha q
  · exact fun _ => ha
theorem ruE_kitchen {p : Pb} {w : Int} {a t : List UInt8} (hw : 0 ≤ w ∧ w ≤ 1000) (ha : nameP a) (hT : hasT p.tabs t) : ruE p ⟨17, w, a, [], t, 0⟩ = 0 := by
  unfold ruE
  rw [if_pos (by simp only; omega)]
  refine err_0 hw ?_ ?_ ?_ ?_ ?_ ?_ <;> simp [kdOf, kdL, Kd.plain, Kd.unk, Kd.ut, Kd.most, ha, hT]
theorem ruE_rest {p : Pb} {k w n : Int} {t : List UInt8} (hk : k = 8 ∨ k = 9 ∨ (11 ≤ k ∧ k ≤ 16) ∨ k = 18) (hw : 0 ≤ w ∧ w ≤ 1000) (ht : t = [] ∨ hasT p.tabs t) (hn : ((k = 15 ∨ k = 16) ∧ 0 ≤ n ∧ n ≤ 24) ∨ n = 0) : ruE p ⟨k, w, [], [], t, n⟩ = 0 := by
  unfold ruE
  rw [if_pos (by simp only; omega)]
  have : k = 8 ∨ k = 9 ∨ k = 11 ∨ k = 12 ∨ k = 13 ∨ k = 14 ∨ k = 15 ∨ k = 16 ∨ k = 18 := by omega
  have ht2 : ¬ t = [] → hasT p.tabs t := fun q => ht.elim (fun h => absurd h q) id
  rcases this with rfl | rfl | rfl | rfl | rfl | rfl | rfl | rfl | rfl
  all_goals (refine err_0 hw ?_ ?_ ?_ ?_ ?_ ?_ <;> simp [kdOf, kdL, Kd.plain, Kd.unk, Kd.ut, Kd.most] <;> first | exact ht2 | omega)
/-- More tables do no harm to a rule. -/
theorem hasT_app {l m : List Tab} {n : List UInt8} (h : hasT l n) : hasT (l ++ m) n ∧ tix (l ++ m) n = tix l n ∧ tb (l ++ m) (tix l n) = tb l (tix l n) := by
  obtain ⟨j, hj, hn⟩ := h
  have hlt : tix l n < l.length := by
    unfold tix
    refine List.findIdx_lt_length.2 ⟨tb l j, mem_getD hj, by simpa using hn⟩
  refine ⟨⟨j, by simp; omega, by unfold tb; rw [gA1 hj]; exact hn⟩, ?_, by unfold tb; rw [gA1 hlt]⟩
  unfold tix at hlt ⊢
  rw [List.findIdx_append, if_pos hlt]
theorem ruE_app {p p' : Pb} {r : Ru} {m : List Tab} (hu : p'.us = p.us) (ht : p'.tabs = p.tabs ++ m) (h : ruE p r = 0) : ruE p' r = 0 := by
  unfold ruE at h ⊢
  split at h
  rotate_left
  · cases h
  rename_i hk
  rw [if_pos hk]
  have hks : (kdOf r.k).seat = true → (kdOf r.k).t = 116 := by
    have : ∀ i, i < 18 → (kdL.getD i default).seat = true → (kdL.getD i default).t = 116 := by decide
    exact this _ (by omega)
  generalize kdOf r.k = k at h hks ⊢
  unfold Kd.err at h
  split at h; · cases h
  split at h; · cases h
  split at h; · cases h
  split at h; · cases h
  split at h; · cases h
  split at h; · cases h
  split at h; · cases h
  rename_i h1 h2 h3 h4 h5 h6 h7
  refine err_0 (by omega) (Classical.not_not.1 h2) (by rw [hu]; exact h3) h4 h5 ?_ ?_
  · rintro (⟨q1, q2⟩ | ⟨q1, q2, q3⟩)
    · exact h6 (.inl ⟨q1, fun q => q2 (by rw [ht]; exact (hasT_app q).1)⟩)
    · exact h6 (.inr ⟨q1, q2, fun q => q3 (by rw [ht]; exact (hasT_app q).1)⟩)
  · rintro ⟨q1, q2⟩
    refine h7 ⟨q1, q2.imp id fun q => ?_⟩
    unfold Kd.most at q ⊢
    split at q
    · rename_i hs
      rw [if_pos hs]
      by_cases hT : hasT p.tabs r.t
      · obtain ⟨-, e1, e2⟩ := hasT_app (m := m) hT
        rw [ht, e1, e2] at q
        exact q
      · exact absurd (.inl ⟨hks hs, hT⟩) h6
    · rename_i hs
      rw [if_neg hs]; exact q
end Go.Proofs.Xx

/-
  The rule of a number.
-/
namespace Go.Proofs.Xx
open Go Go.Proofs
set_option linter.unusedSimpArgs false
set_option linter.unusedVariables false
set_option linter.unusedSectionVars false
set_option maxRecDepth 100000
set_option maxHeartbeats 4000000

theorem chk_AB {t : Tab} (h : chk t = 0) : (-100 ≤ t.A ∧ t.A ≤ 100) ∧ (-100 ≤ t.B ∧ t.B ≤ 100) ∧ 1 ≤ tsize t := by
  have h2 : tsize t ≠ 0 := fun q => by
    unfold chk at h
    split at h
    all_goals first | omega
  have h3 := tsize_le t
  unfold tsize sizeOf1 roundSize longSize shoeSize rowSize at h2 h3 ⊢
  repeat' split at h2
  all_goals simp_all
  all_goals omega
theorem asked_ok {h0 : AH} (w : WfH h0) (v : PbV) (tabs : List Tab) (us : List Gu) (rt : RdL h0 v.vt.val 7 eT tabs) (hv : ValidL tabs) (rg : RdL h0 v.vg.val 9 eG v.gs) (hu : v.gs.map (·.toGu) = us) (hg : ∀ g ∈ us, chkG g = 0) (nd : ∀ i j, i < j → j < us.length → (us.getD i default).name ≠ (us.getD j default).name) (hul : us.length ≤ 100) (x : Nat) (hx : x < 4294967296) :
    Fn Tryz.prog Xh 60 [v.val, .int .i64 x] h0 (fun u h' => ∃ r c, u = .tuple #[ruV r, .bool c] ∧ (c = true → ∀ p : Pb, p.tabs = tabs → p.us = us → ruE p r = 0) ∧ Hs h0 h' []) := by
  have S := Hs.start w
  have hgl : v.gs.length = us.length := by rw [← hu]; simp
  have htl := hv.1
  unfold PbV.val
  refine Fn_K (by first | rfl) Tryz.func60 rfl rfl ?_
  all_goals (repeat' (first | refine K_seq ?_ | (refine K_region (id := 0) ?_; (refine bx S ?_; clear S; intro b h S); (refine al S ?_; clear S; intro b h S); refine mv ?_; refine KO_nil ?_)))
  rename_i b2 h2
  obtain ⟨b4, hnm⟩ : ∃ x, x = b := ⟨_, rfl⟩; subst hnm
  all_goals (repeat' (first | refine K_seq ?_ | (refine K_region (id := 1) ?_; refine mv ?_; refine rm ?_; refine ad ?_; refine cU ?_; refine vl ?_; (refine al S ?_; clear S; intro b h S); (first | (refine sB S rfl rfl ?_; clear S; intro h S)); refine KO_nil ?_) | (refine K_region (id := 2) ?_; refine mv ?_; refine qu ?_; refine mv ?_; refine KO_nil ?_)))
  obtain ⟨b6, hnm⟩ : ∃ x, x = b := ⟨_, rfl⟩; subst hnm
  replace S : Hs h0 h [.blk b6 (eRu ⟨1 + (x : Int) % 18, 0, [], [], [], 0⟩) 108, .blk b4 (eRu default) 108, .blk b2 v.cs 33] := S
  skip
  (repeat (refine K_seq ?_)); first | refine K_join (σ := Int) (fun wt h' => Hs h0 h' [.blk b6 (eRu ⟨1 + (x : Int) % 18, wt, [], [], [], 0⟩) 108, .blk b4 (eRu default) 108, .blk b2 v.cs 33] ∧ 0 ≤ wt ∧ wt ≤ 7) (fun wt => [(2, .pointer (some ⟨b2, 0, none⟩)), (4, .pointer (some ⟨b4, 0, none⟩)), (5, .bool false), (6, .pointer (some ⟨b6, 0, none⟩)), (1, .int .i64 (x / 18))]) ?_ ?_
  · all_goals (repeat' (first | refine k_cond rfl ?_ | refine K_skip ?_ | (refine K_region (id := 3) ?_; refine mv ?_; refine rm ?_; (first | (refine cS ?_ ?_ <;> intro hc)) <;> (refine KO_nil ?_)) | (refine K_region (id := 4) ?_; refine mv ?_; refine rm ?_; refine ad ?_; refine vl ?_; (first | (refine sB S rfl rfl ?_; clear S; intro h S)); refine KO_nil ?_)))
    · exact ⟨1 + (x : Int) / 18 % 7, ⟨S, by omega, by omega⟩, ((by repeat (first | exact Ks.le_nil _ | refine Ks.le_cons rfl ?_)))⟩
    · exact ⟨0, ⟨S, by omega, by omega⟩, ((by repeat (first | exact Ks.le_nil _ | refine Ks.le_cons rfl ?_)))⟩
  clear S
  rintro wt h ⟨S, hw1, hw2⟩
  have hw : 0 ≤ wt ∧ wt ≤ 1000 := by omega
  skip
  all_goals (repeat' (first | refine K_seq ?_ | refine k_cond rfl ?_ | refine K_skip ?_ | (refine K_region (id := 5) ?_; refine mv ?_; refine qu ?_; refine mv ?_; refine KO_nil ?_) | (refine K_draw (id := 6) ?_; refine vl ?_; refine lB S rfl rfl ?_; refine lnB S ?_; refine vl ?_; refine lB S rfl rfl ?_; refine lnB S ?_; refine mv ?_; refine mv ?_; refine KO_nil ?_) | (refine K_region (id := 7) ?_; refine mv ?_; (first | (refine cS ?_ ?_ <;> intro hc)) <;> (refine mv ?_; (first | refine off ?_ | refine mv ?_); (first | refine off ?_ | (first | (refine cS ?_ ?_ <;> intro hc))) <;> (refine vl ?_; refine KO_nil ?_))) | (refine K_region (id := 8) ?_; refine lB S rfl rfl ?_; (first | (refine sB S rfl rfl ?_; clear S; intro h S)); refine mv ?_; refine KO_nil ?_)))
  · refine K_ret ⟨_, ret_cell S rfl (by first | exact .there .here) (by exact rfl) (by exact rfl), ?_⟩
    exact ⟨_, _, rfl, fun q => (by cases q), S.drop⟩
  · refine K_ret ⟨_, ret_cell S rfl (by first | exact .there .here) (by exact rfl) (by exact rfl), ?_⟩
    exact ⟨_, _, rfl, fun q => (by cases q), S.drop⟩
  have hgl0 : 0 < v.gs.length := by omega
  have htl0 : 0 < tabs.length := by omega
  have hk : 1 ≤ 1 + (x : Int) % 18 ∧ 1 + (x : Int) % 18 ≤ 18 := by omega
  skip
  all_goals (repeat' (first | refine K_seq ?_ | (refine K_draw (id := 9) ?_; refine mv ?_; refine mv ?_; refine rm ?_; refine mv ?_; refine mv ?_; refine qu ?_; refine mv ?_; refine rm ?_; refine mv ?_; refine qu ?_; refine mv ?_; refine rm ?_; refine mv ?_; refine mv ?_; refine mv ?_; refine KO_nil ?_) | (refine K_region (id := 10) ?_; refine mv ?_; refine qu ?_; refine rm ?_; refine mv ?_; refine KO_nil ?_)))
  obtain ⟨gi, hgi⟩ : ∃ gi : Nat, (x : Int) / 18 / 5 % v.gs.length = gi ∧ gi < v.gs.length := ⟨x / 18 / 5 % v.gs.length, by push_cast; rfl, Nat.mod_lt _ hgl0⟩
  obtain ⟨gj, hgj⟩ : ∃ gj : Nat, (x : Int) / 18 / 5 / v.gs.length % v.gs.length = gj ∧ gj < v.gs.length := ⟨x / 18 / 5 / v.gs.length % v.gs.length, by push_cast; rfl, Nat.mod_lt _ hgl0⟩
  obtain ⟨ti, hti⟩ : ∃ ti : Nat, (x : Int) / 18 / 5 / 7 % tabs.length = ti ∧ ti < tabs.length := ⟨x / 18 / 5 / 7 % tabs.length, by push_cast; rfl, Nat.mod_lt _ htl0⟩
  rw [hgi.1, hgj.1, hti.1]
  have na : ∀ i, i < v.gs.length → gat us (v.gs.getD i default).name ≠ none := fun i hi => gat_mem.2 ⟨us.getD i default, mem_getD (by omega), by rw [← hu, map_getD hi]⟩
  have nn : ∀ i j, i < v.gs.length → j < v.gs.length → i ≠ j → (v.gs.getD i default).name ≠ (v.gs.getD j default).name := fun i j hi hj hij => by
    have e1 : (us.getD i default).name = (v.gs.getD i default).name := by rw [← hu, map_getD hi]
    have e2 : (us.getD j default).name = (v.gs.getD j default).name := by rw [← hu, map_getD hj]
    rw [← e1, ← e2]
    rcases Nat.lt_or_gt_of_ne hij with q | q
    · exact nd i j q (by omega)
    · exact fun e => nd j i q (by omega) e.symm
  have hn : 0 ≤ (x : Int) / 18 / 5 / 11 % 4 ∧ (x : Int) / 18 / 5 / 11 % 4 ≤ 3 := by omega
  obtain ⟨n, hne⟩ : ∃ n, (x : Int) / 18 / 5 / 11 % 4 = n := ⟨_, rfl⟩
  rw [hne] at hn ⊢
  obtain ⟨k, hke⟩ : ∃ k, 1 + (x : Int) % 18 = k := ⟨_, rfl⟩
  rw [hke] at hk S
  clear hke hne
  have hbg : blkS v.vg.val < h0.next := Rd.bS w rg hgl0
  have hbt : blkS v.vt.val < h0.next := Rd.bS w rt htl0
  skip
  (repeat (refine K_seq ?_)); first | refine K_join1 (σ := Unit) (fun _ h' => Hs h0 h' [.blk b6 [.int .u8 k, .int .i64 wt, str [], str [], str [], .int .i64 0] 108, .blk b4 (eRu default) 108, .blk b2 v.cs 33]) (fun _ => [(1, .int .i64 ((x : Int) / 18 / 5)), (2, .pointer (some ⟨b2, 0, none⟩)), (4, .pointer (some ⟨b4, 0, none⟩)), (5, .bool false), (6, .pointer (some ⟨b6, 0, none⟩)), (9, .int .i64 gi), (10, .int .i64 gj), (11, .int .i64 ti), (12, .int .i64 n), (58, .int .u8 k)]) ?_ ?_
  · all_goals (repeat' (first | (refine K_region (id := 11) ?_; refine vl ?_; refine lB S rfl rfl ?_; refine KO_nil ?_)))
    exact ⟨(), S, ((by repeat (first | exact Ks.le_nil _ | refine Ks.le_cons rfl ?_)))⟩
  clear S hw1 hw2
  rintro _ h S
  rcases (show (1 ≤ k ∧ k ≤ 5) ∨ (k = 6 ∨ k = 7) ∨ k = 10 ∨ k = 17 ∨ (k = 8 ∨ k = 9 ∨ (11 ≤ k ∧ k ≤ 16) ∨ k = 18) by omega) with hk5 | hk67 | hk10 | hk17 | hkr
  · all_goals (repeat' (first | refine K_seq ?_ | refine k_cond rfl ?_ | refine K_skip ?_ | refine k_block ?_ | (refine K_region (id := 12) ?_; (first | (refine cS ?_ ?_ <;> intro hc)) <;> (refine mv ?_; refine KO_nil ?_)) | (refine K_region (id := 13) ?_; (first | (refine cS ?_ ?_ <;> intro hc)) <;> (refine mv ?_; refine KO_nil ?_)) | (refine K_region (id := 14) ?_; (first | (refine cS ?_ ?_ <;> intro hc)) <;> (refine mv ?_; refine KO_nil ?_)) | (refine K_region (id := 15) ?_; (first | (refine cS ?_ ?_ <;> intro hc)) <;> (refine mv ?_; refine KO_nil ?_)) | (refine K_region (id := 16) ?_; (refine cT ?_) <;> (refine mv ?_; refine KO_nil ?_))))
    all_goals first | (have e : k = 1 := (by omega); subst e) | (have e : k = 2 := (by omega); subst e) | (have e : k = 3 := (by omega); subst e) | (have e : k = 4 := (by omega); subst e) | (have e : k = 5 := (by omega); subst e)
    all_goals ((repeat (refine K_seq ?_)); refine K_drawX (id := 17) [(7, (0, 1)), (11, (0, 1))] [some (b2), some (blkS v.vg.val)] ?_; refine KX_cons ?_; (first | (refine vl ?_ <;> refine KO_nil ⟨⟨by (first | exact True.intro), rfl⟩, ?_⟩)); refine KX_cons ?_; (first | (refine lB S rfl rfl ?_ <;> refine KO_nil ⟨⟨by (first | exact True.intro), rfl⟩, ?_⟩)); refine KX_cons ?_; (first | (refine mv ?_ <;> refine KO_nil ⟨⟨by (first | exact True.intro), rfl⟩, ?_⟩)); refine KX_cons ?_; (first | (refine ixB S ?_ <;> refine KO_nil ⟨⟨by (first | exact True.intro), rfl⟩, ?_⟩)); refine KX_cons ?_; (first | (refine fB S ?_ <;> refine KO_nil ⟨⟨by (first | exact True.intro), rfl⟩, ?_⟩)); refine KX_cons ?_; (first | (refine lEB S ?_ <;> refine KO_nil ⟨⟨by (first | exact True.intro), rfl⟩, ?_⟩)); refine KX_cons ?_; (first | (refine vl ?_ <;> refine KO_nil ⟨⟨by (first | exact True.intro), rfl⟩, ?_⟩)); refine KX_cons ?_; (first | (refine lB S rfl rfl ?_ <;> refine KO_nil ⟨⟨by (first | exact Or.inr rfl), rfl⟩, ?_⟩)); refine KX_cons ?_; (first | (refine mv ?_ <;> refine KO_nil ⟨⟨by (first | exact True.intro), rfl⟩, ?_⟩)); refine KX_cons ?_; (first | (refine ixB S ?_ <;> refine KO_nil ⟨⟨by (first | exact True.intro), rfl⟩, ?_⟩)); refine KX_cons ?_; (first | (refine fB S ?_ <;> refine KO_nil ⟨⟨by (first | exact True.intro), rfl⟩, ?_⟩)); refine KX_cons ?_; (first | (refine lEB S ?_ <;> refine KO_nil ⟨⟨by (first | exact Or.inr (congrArg some (blkOf_elA _ _ _ _))), rfl⟩, ?_⟩)); refine KX_cons ?_; (first | (refine vl ?_ <;> refine KO_nil ⟨⟨by (first | exact True.intro), rfl⟩, ?_⟩)); refine KX_cons ?_; (first | ((refine sB S rfl rfl ?_; have S0 := S; clear S; intro h S); refine KO_nil ⟨⟨True.intro, ?_⟩, ?_⟩; (focus ((show keepsX _ _ _ _ _; simp only [keepsX]; (repeat' (first | exact True.intro | refine And.intro ?_ ?_)); all_goals (intro hw; first | exact (S.gB).trans (S0.gB).symm | exact (S.ext.old _ (by assumption)).trans (S0.ext.old _ (by assumption)).symm)))); clear S0)); refine KX_cons ?_; (first | (refine vl ?_ <;> refine KO_nil ⟨⟨by (first | exact True.intro), rfl⟩, ?_⟩)); refine KX_cons ?_; (first | ((refine sB S rfl rfl ?_; have S0 := S; clear S; intro h S); refine KO_nil ⟨⟨True.intro, ?_⟩, ?_⟩; (focus ((show keepsX _ _ _ _ _; simp only [keepsX]; (repeat' (first | exact True.intro | refine And.intro ?_ ?_)); all_goals (intro hw; first | exact absurd hw (by decide +kernel))))); clear S0)); refine KX_nil ?_)
    all_goals (replace S : Hs h0 h [.blk b6 [.int .u8 _, .int .i64 wt, str (v.gs.getD gi default).name, str (v.gs.getD gj default).name, str [], .int .i64 0] 108, .blk b4 (eRu default) 108, .blk b2 v.cs 33] := S)
    all_goals (skip)
    all_goals (all_goals (repeat' (first | refine K_seq ?_ | refine k_cond rfl ?_ | refine K_skip ?_ | (refine K_region (id := 18) ?_; refine vl ?_; refine lB S rfl rfl ?_; (first | refine cT ?_ | refine cF ?_) <;> (refine mv ?_; (first | refine off ?_ | (refine vl ?_)); (first | refine off ?_ | (refine lB S rfl rfl ?_)); (first | refine off ?_ | (first | refine cT ?_ | refine cF ?_)) <;> (refine vl ?_; refine KO_nil ?_))) | (refine K_region (id := 19) ?_; refine mv ?_; refine vl ?_; (first | (refine sB S rfl rfl ?_; clear S; intro h S)); refine KO_nil ?_) | (refine K_region (id := 20) ?_; refine vl ?_; refine lB S rfl rfl ?_; (first | refine cT ?_ | refine cF ?_) <;> (refine KO_nil ?_)) | (refine K_region (id := 21) ?_; refine vl ?_; refine lB S rfl rfl ?_; refine ad ?_; refine vl ?_; (first | (refine sB S rfl rfl ?_; clear S; intro h S)); refine KO_nil ?_) | (refine K_region (id := 22) ?_; refine lB S rfl rfl ?_; refine mv ?_; refine mv ?_; (first | (refine cS ?_ ?_ <;> intro hc)) <;> ((first | (refine sB S rfl rfl ?_; clear S; intro h S)); refine mv ?_; refine KO_nil ?_)))))
    all_goals (refine K_ret ⟨_, ret_cell S rfl (by first | exact .there .here) (by exact rfl) (by exact rfl), ?_⟩)
    all_goals first
      | exact ⟨⟨1, wt, (v.gs.getD gi default).name, (v.gs.getD gj default).name, [], n⟩, true, rfl, fun _ p ht hu' => ruE_two (by omega) hw (by rw [hu']; exact na gi hgi.2) (by rw [hu']; exact na gj hgj.2) (nn gi gj hgi.2 hgj.2 (by omega)) (.inl ⟨rfl, hn.1, by omega⟩), S.drop⟩
      | exact ⟨⟨4, wt, (v.gs.getD gi default).name, (v.gs.getD gj default).name, [], n + 1⟩, true, rfl, fun _ p ht hu' => ruE_two (by omega) hw (by rw [hu']; exact na gi hgi.2) (by rw [hu']; exact na gj hgj.2) (nn gi gj hgi.2 hgj.2 (by omega)) (.inr (.inl ⟨rfl, by omega, by omega⟩)), S.drop⟩
      | exact ⟨⟨_, wt, (v.gs.getD gi default).name, (v.gs.getD gj default).name, [], 0⟩, true, rfl, fun _ p ht hu' => ruE_two (by omega) hw (by rw [hu']; exact na gi hgi.2) (by rw [hu']; exact na gj hgj.2) (nn gi gj hgi.2 hgj.2 (by omega)) (.inr (.inr ⟨by omega, rfl⟩)), S.drop⟩
      | exact ⟨⟨_, wt, (v.gs.getD gi default).name, (v.gs.getD gj default).name, [], _⟩, false, rfl, fun q => (by cases q), S.drop⟩
  · have hT : hasT tabs (tb tabs ti).name := ⟨ti, hti.2, rfl⟩
    have hx := hasT_tix hv hti.2
    all_goals (repeat' (first | refine K_seq ?_ | refine k_cond rfl ?_ | refine K_skip ?_ | refine k_block ?_ | (refine K_region (id := 12) ?_; (refine cF ?_) <;> (refine mv ?_; refine KO_nil ?_)) | (refine K_region (id := 13) ?_; (refine cF ?_) <;> (refine mv ?_; refine KO_nil ?_)) | (refine K_region (id := 14) ?_; (refine cF ?_) <;> (refine mv ?_; refine KO_nil ?_)) | (refine K_region (id := 15) ?_; (refine cF ?_) <;> (refine mv ?_; refine KO_nil ?_)) | (refine K_region (id := 16) ?_; (refine cF ?_) <;> (refine mv ?_; refine KO_nil ?_)) | (refine K_region (id := 23) ?_; (first | (refine cS ?_ ?_ <;> intro hc)) <;> (refine mv ?_; refine KO_nil ?_)) | (refine K_region (id := 24) ?_; (refine cT ?_) <;> (refine mv ?_; refine KO_nil ?_))))
    all_goals first | (have e : k = 6 := (by omega); subst e) | (have e : k = 7 := (by omega); subst e)
    all_goals ((repeat (refine K_seq ?_)); refine K_drawX (id := 25) [(7, (0, 1)), (11, (0, 1))] [some (b2), some (blkS v.vt.val)] ?_; refine KX_cons ?_; (first | (refine vl ?_ <;> refine KO_nil ⟨⟨by (first | exact True.intro), rfl⟩, ?_⟩)); refine KX_cons ?_; (first | (refine lB S rfl rfl ?_ <;> refine KO_nil ⟨⟨by (first | exact True.intro), rfl⟩, ?_⟩)); refine KX_cons ?_; (first | (refine mv ?_ <;> refine KO_nil ⟨⟨by (first | exact True.intro), rfl⟩, ?_⟩)); refine KX_cons ?_; (first | (refine ixB S ?_ <;> refine KO_nil ⟨⟨by (first | exact True.intro), rfl⟩, ?_⟩)); refine KX_cons ?_; (first | (refine fB S ?_ <;> refine KO_nil ⟨⟨by (first | exact True.intro), rfl⟩, ?_⟩)); refine KX_cons ?_; (first | (refine lEB S ?_ <;> refine KO_nil ⟨⟨by (first | exact True.intro), rfl⟩, ?_⟩)); refine KX_cons ?_; (first | (refine vl ?_ <;> refine KO_nil ⟨⟨by (first | exact True.intro), rfl⟩, ?_⟩)); refine KX_cons ?_; (first | (refine lB S rfl rfl ?_ <;> refine KO_nil ⟨⟨by (first | exact Or.inr rfl), rfl⟩, ?_⟩)); refine KX_cons ?_; (first | (refine mv ?_ <;> refine KO_nil ⟨⟨by (first | exact True.intro), rfl⟩, ?_⟩)); refine KX_cons ?_; (first | (refine ixB S ?_ <;> refine KO_nil ⟨⟨by (first | exact True.intro), rfl⟩, ?_⟩)); refine KX_cons ?_; (first | (refine fB S ?_ <;> refine KO_nil ⟨⟨by (first | exact True.intro), rfl⟩, ?_⟩)); refine KX_cons ?_; (first | (refine lEB S ?_ <;> refine KO_nil ⟨⟨by (first | exact Or.inr (congrArg some (blkOf_elA _ _ _ _))), rfl⟩, ?_⟩)); refine KX_cons ?_; (first | (refine vl ?_ <;> refine KO_nil ⟨⟨by (first | exact True.intro), rfl⟩, ?_⟩)); refine KX_cons ?_; (first | ((refine sB S rfl rfl ?_; have S0 := S; clear S; intro h S); refine KO_nil ⟨⟨True.intro, ?_⟩, ?_⟩; (focus ((show keepsX _ _ _ _ _; simp only [keepsX]; (repeat' (first | exact True.intro | refine And.intro ?_ ?_)); all_goals (intro hw; first | exact (S.gB).trans (S0.gB).symm | exact (S.ext.old _ (by assumption)).trans (S0.ext.old _ (by assumption)).symm)))); clear S0)); refine KX_cons ?_; (first | (refine vl ?_ <;> refine KO_nil ⟨⟨by (first | exact True.intro), rfl⟩, ?_⟩)); refine KX_cons ?_; (first | ((refine sB S rfl rfl ?_; have S0 := S; clear S; intro h S); refine KO_nil ⟨⟨True.intro, ?_⟩, ?_⟩; (focus ((show keepsX _ _ _ _ _; simp only [keepsX]; (repeat' (first | exact True.intro | refine And.intro ?_ ?_)); all_goals (intro hw; first | exact absurd hw (by decide +kernel))))); clear S0)); refine KX_nil ?_)
    all_goals (replace S : Hs h0 h [.blk b6 [.int .u8 _, .int .i64 wt, str (v.gs.getD gi default).name, str [], str (tb tabs ti).name, .int .i64 0] 108, .blk b4 (eRu default) 108, .blk b2 v.cs 33] := S)
    all_goals (skip)
    all_goals (all_goals (repeat' (first | refine K_seq ?_ | refine k_cond rfl ?_ | refine K_skip ?_ | (refine K_region (id := 26) ?_; refine vl ?_; refine lB S rfl rfl ?_; (first | refine cT ?_ | refine cF ?_) <;> (refine KO_nil ?_)) | (refine K_region (id := 28) ?_; refine lB S rfl rfl ?_; (first | (refine sB S rfl rfl ?_; clear S; intro h S)); refine mv ?_; refine KO_nil ?_))))
    · refine K_ret ⟨_, ret_cell S rfl (by first | exact .there .here) (by exact rfl) (by exact rfl), ?_⟩
      exact ⟨⟨6, wt, (v.gs.getD gi default).name, [], (tb tabs ti).name, 0⟩, true, rfl, fun _ p ht hu' => ruE_at (.inl rfl) hw (by rw [hu']; exact na gi hgi.2) (by rw [ht]; exact hT) (.inl ⟨rfl, rfl⟩), S.drop⟩
    · obtain ⟨c1, c2, c3⟩ := chk_AB (hv.2 _ hti.2).1
      have c4 := tsz_eq (hv.2 _ hti.2).1
      all_goals (repeat' (first | (refine K_region (id := 27) ?_; refine mv ?_; refine qu ?_; refine vl ?_; refine lB S rfl rfl ?_; refine mv ?_; refine ixB S ?_; refine lEB S ?_)))
      (refine KO_fn rfl rfl rfl rfl rfl ((tsize2_ok S.wf (tb tabs ti) c1 c2).mono ?_); rintro _ h ⟨rfl, y⟩) <;> (replace S := S.join0 y; clear y; refine rm ?_; refine vl ?_; (first | (refine sB S rfl rfl ?_; clear S; intro h S)); refine KO_nil ?_)
      have c5 : 1 ≤ tsz (tb tabs ti).shape (tb tabs ti).A (tb tabs ti).B := by omega
      all_goals (repeat' (first | refine K_seq ?_ | (refine K_region (id := 28) ?_; refine lB S rfl rfl ?_; (first | (refine sB S rfl rfl ?_; clear S; intro h S)); refine mv ?_; refine KO_nil ?_)))
      refine K_ret ⟨_, ret_cell S rfl (by first | exact .there .here) (by exact rfl) (by exact rfl), ?_⟩
      have e1 := Int.emod_nonneg ((x : Int) / 18 / 5 / 13) (show tsize (tb tabs ti) ≠ 0 by omega)
      have e2 := Int.emod_lt_of_pos ((x : Int) / 18 / 5 / 13) (show 0 < tsize (tb tabs ti) by omega)
      rw [← c4] at e1 e2
      exact ⟨⟨7, wt, (v.gs.getD gi default).name, [], (tb tabs ti).name, (x : Int) / 18 / 5 / 13 % tsz (tb tabs ti).shape (tb tabs ti).A (tb tabs ti).B⟩, true, rfl, fun _ p ht hu' => ruE_at (.inr rfl) hw (by rw [hu']; exact na gi hgi.2) (by rw [ht]; exact hT) (.inr ⟨rfl, e1, by rw [ht, hx, ← c4]; exact e2⟩), S.drop⟩
  · subst hk10
    all_goals (repeat' (first | refine K_seq ?_ | refine k_cond rfl ?_ | refine K_skip ?_ | refine k_block ?_ | (refine K_region (id := 12) ?_; (refine cF ?_) <;> (refine mv ?_; refine KO_nil ?_)) | (refine K_region (id := 13) ?_; (refine cF ?_) <;> (refine mv ?_; refine KO_nil ?_)) | (refine K_region (id := 14) ?_; (refine cF ?_) <;> (refine mv ?_; refine KO_nil ?_)) | (refine K_region (id := 15) ?_; (refine cF ?_) <;> (refine mv ?_; refine KO_nil ?_)) | (refine K_region (id := 16) ?_; (refine cF ?_) <;> (refine mv ?_; refine KO_nil ?_)) | (refine K_region (id := 23) ?_; (refine cF ?_) <;> (refine mv ?_; refine KO_nil ?_)) | (refine K_region (id := 24) ?_; (refine cF ?_) <;> (refine mv ?_; refine KO_nil ?_)) | (refine K_region (id := 29) ?_; (refine cT ?_) <;> (refine mv ?_; refine KO_nil ?_)) | (refine K_region (id := 30) ?_; refine mv ?_; refine rm ?_; (first | (refine cS ?_ ?_ <;> intro hc)) <;> (refine KO_nil ?_)) | (refine K_region (id := 31) ?_; refine vl ?_; refine lB S rfl rfl ?_; refine mv ?_; refine ixB S ?_; refine fB S ?_; refine lEB S ?_; refine vl ?_; (first | (refine sB S rfl rfl ?_; clear S; intro h S)); refine KO_nil ?_) | (refine K_region (id := 32) ?_; refine lB S rfl rfl ?_; (first | (refine sB S rfl rfl ?_; clear S; intro h S)); refine mv ?_; refine KO_nil ?_)))
    all_goals (refine K_ret ⟨_, ret_cell S rfl (by first | exact .there .here) (by exact rfl) (by exact rfl), ?_⟩)
    · exact ⟨⟨10, wt, (v.gs.getD gi default).name, [], [], 0⟩, true, rfl, fun _ p ht hu' => ruE_reach hw (.inr (by rw [hu']; exact na gi hgi.2)), S.drop⟩
    · exact ⟨⟨10, wt, [], [], [], 0⟩, true, rfl, fun _ p ht hu' => ruE_reach hw (.inl rfl), S.drop⟩
  · subst hk17
    have hT : hasT tabs (tb tabs ti).name := ⟨ti, hti.2, rfl⟩
    all_goals (repeat' (first | refine K_seq ?_ | refine k_cond rfl ?_ | refine k_block ?_ | (refine K_region (id := 12) ?_; (refine cF ?_) <;> (refine mv ?_; refine KO_nil ?_)) | (refine K_region (id := 13) ?_; (refine cF ?_) <;> (refine mv ?_; refine KO_nil ?_)) | (refine K_region (id := 14) ?_; (refine cF ?_) <;> (refine mv ?_; refine KO_nil ?_)) | (refine K_region (id := 15) ?_; (refine cF ?_) <;> (refine mv ?_; refine KO_nil ?_)) | (refine K_region (id := 16) ?_; (refine cF ?_) <;> (refine mv ?_; refine KO_nil ?_)) | (refine K_region (id := 23) ?_; (refine cF ?_) <;> (refine mv ?_; refine KO_nil ?_)) | (refine K_region (id := 24) ?_; (refine cF ?_) <;> (refine mv ?_; refine KO_nil ?_)) | (refine K_region (id := 29) ?_; (refine cF ?_) <;> (refine mv ?_; refine KO_nil ?_)) | (refine K_region (id := 33) ?_; (refine cT ?_) <;> (refine mv ?_; refine KO_nil ?_))))
    (repeat (refine K_seq ?_)); refine K_drawX (id := 34) [(7, (0, 1)), (11, (0, 1))] [some (b2), some (blkS v.vt.val)] ?_; refine KX_cons ?_; (first | (refine vl ?_ <;> refine KO_nil ⟨⟨by (first | exact True.intro), rfl⟩, ?_⟩)); refine KX_cons ?_; (first | (refine lB S rfl rfl ?_ <;> refine KO_nil ⟨⟨by (first | exact True.intro), rfl⟩, ?_⟩)); refine KX_cons ?_; (first | (refine mv ?_ <;> refine KO_nil ⟨⟨by (first | exact True.intro), rfl⟩, ?_⟩)); refine KX_cons ?_; (first | (refine ixB S ?_ <;> refine KO_nil ⟨⟨by (first | exact True.intro), rfl⟩, ?_⟩)); refine KX_cons ?_; (first | (refine fB S ?_ <;> refine KO_nil ⟨⟨by (first | exact True.intro), rfl⟩, ?_⟩)); refine KX_cons ?_; (first | (refine lEB S ?_ <;> refine KO_nil ⟨⟨by (first | exact True.intro), rfl⟩, ?_⟩)); refine KX_cons ?_; (first | (refine vl ?_ <;> refine KO_nil ⟨⟨by (first | exact True.intro), rfl⟩, ?_⟩)); refine KX_cons ?_; (first | (refine lB S rfl rfl ?_ <;> refine KO_nil ⟨⟨by (first | exact Or.inr rfl), rfl⟩, ?_⟩)); refine KX_cons ?_; (first | (refine mv ?_ <;> refine KO_nil ⟨⟨by (first | exact True.intro), rfl⟩, ?_⟩)); refine KX_cons ?_; (first | (refine ixB S ?_ <;> refine KO_nil ⟨⟨by (first | exact True.intro), rfl⟩, ?_⟩)); refine KX_cons ?_; (first | (refine fB S ?_ <;> refine KO_nil ⟨⟨by (first | exact True.intro), rfl⟩, ?_⟩)); refine KX_cons ?_; (first | (refine lEB S ?_ <;> refine KO_nil ⟨⟨by (first | exact Or.inr (congrArg some (blkOf_elA _ _ _ _))), rfl⟩, ?_⟩)); refine KX_cons ?_; (first | (refine vl ?_ <;> refine KO_nil ⟨⟨by (first | exact True.intro), rfl⟩, ?_⟩)); refine KX_cons ?_; (first | ((refine sB S rfl rfl ?_; have S0 := S; clear S; intro h S); refine KO_nil ⟨⟨True.intro, ?_⟩, ?_⟩; (focus ((show keepsX _ _ _ _ _; simp only [keepsX]; (repeat' (first | exact True.intro | refine And.intro ?_ ?_)); all_goals (intro hw; first | exact (S.gB).trans (S0.gB).symm | exact (S.ext.old _ (by assumption)).trans (S0.ext.old _ (by assumption)).symm)))); clear S0)); refine KX_cons ?_; (first | (refine vl ?_ <;> refine KO_nil ⟨⟨by (first | exact True.intro), rfl⟩, ?_⟩)); refine KX_cons ?_; (first | ((refine sB S rfl rfl ?_; have S0 := S; clear S; intro h S); refine KO_nil ⟨⟨True.intro, ?_⟩, ?_⟩; (focus ((show keepsX _ _ _ _ _; simp only [keepsX]; (repeat' (first | exact True.intro | refine And.intro ?_ ?_)); all_goals (intro hw; first | exact absurd hw (by decide +kernel))))); clear S0)); refine KX_nil ?_
    replace S : Hs h0 h [.blk b6 [.int .u8 17, .int .i64 wt, str (v.gs.getD gi default).diet, str [], str (tb tabs ti).name, .int .i64 0] 108, .blk b4 (eRu default) 108, .blk b2 v.cs 33] := S
    skip
    (repeat (refine K_seq ?_)); refine K_drawX (id := 35) [(2, (0, 1))] [some (b6)] ?_; refine KX_cons ?_; (first | (refine lB S rfl rfl ?_ <;> refine KO_nil ⟨⟨by (first | exact True.intro), rfl⟩, ?_⟩)); refine KX_cons ?_; (first | (refine vl ?_ <;> refine KO_nil ⟨⟨by (first | exact True.intro), rfl⟩, ?_⟩)); refine KX_cons ?_; (first | (refine lB S rfl rfl ?_ <;> refine KO_nil ⟨⟨by (first | exact Or.inr rfl), rfl⟩, ?_⟩)); refine KX_cons ?_; (first | ((refine tS ?_ ?_ <;> intro hc) <;> refine KO_nil ⟨⟨by (first | exact True.intro), rfl⟩, ?_⟩)) <;> (refine KX_cons ?_; (first | ((refine sB S rfl rfl ?_; have S0 := S; clear S; intro h S); refine KO_nil ⟨⟨True.intro, ?_⟩, ?_⟩; (focus ((show keepsX _ _ _ _ _; simp only [keepsX]; (repeat' (first | exact True.intro | refine And.intro ?_ ?_)); all_goals (intro hw; first | exact (S.gB).trans (S0.gB).symm)))); clear S0)); refine KX_cons ?_; (first | (refine mv ?_ <;> refine KO_nil ⟨⟨by (first | exact True.intro), rfl⟩, ?_⟩)); refine KX_nil ?_)
    · refine K_ret ⟨_, ret_cell S rfl (by first | exact .there .here) (by exact rfl) (by exact rfl), ?_⟩
      exact ⟨⟨17, wt, (v.gs.getD gi default).diet, [], (tb tabs ti).name, 0⟩, false, rfl, fun q => (by cases q), S.drop⟩
    · refine K_ret ⟨_, ret_cell S rfl (by first | exact .there .here) (by exact rfl) (by exact rfl), ?_⟩
      have hd : nameP (v.gs.getD gi default).diet := by
        have h3 := hg _ (mem_getD (show gi < us.length by omega))
        have e : (us.getD gi default).diet = (v.gs.getD gi default).diet := by rw [← hu, map_getD hgi.2]
        have h4 : NmsOk (us.getD gi default) := by
          unfold chkG at h3
          split at h3
          · cases h3
          · rename_i q; exact Classical.not_not.1 q
        have h5 := h4.2.2.2
        rw [e] at h5
        exact h5.elim (fun q => absurd q hc) id
      exact ⟨⟨17, wt, (v.gs.getD gi default).diet, [], (tb tabs ti).name, 0⟩, true, rfl, fun _ p ht hu' => ruE_kitchen hw hd (by rw [ht]; exact hT), S.drop⟩
  · have hT : hasT tabs (tb tabs ti).name := ⟨ti, hti.2, rfl⟩
    all_goals (repeat' (first | refine K_seq ?_ | refine k_cond rfl ?_ | refine K_skip ?_ | refine k_block ?_ | (refine K_region (id := 12) ?_; (refine cF ?_) <;> (refine mv ?_; refine KO_nil ?_)) | (refine K_region (id := 13) ?_; (refine cF ?_) <;> (refine mv ?_; refine KO_nil ?_)) | (refine K_region (id := 14) ?_; (refine cF ?_) <;> (refine mv ?_; refine KO_nil ?_)) | (refine K_region (id := 15) ?_; (refine cF ?_) <;> (refine mv ?_; refine KO_nil ?_)) | (refine K_region (id := 16) ?_; (refine cF ?_) <;> (refine mv ?_; refine KO_nil ?_)) | (refine K_region (id := 23) ?_; (refine cF ?_) <;> (refine mv ?_; refine KO_nil ?_)) | (refine K_region (id := 24) ?_; (refine cF ?_) <;> (refine mv ?_; refine KO_nil ?_)) | (refine K_region (id := 29) ?_; (refine cF ?_) <;> (refine mv ?_; refine KO_nil ?_)) | (refine K_region (id := 33) ?_; (refine cF ?_) <;> (refine mv ?_; refine KO_nil ?_)) | (refine K_region (id := 36) ?_; (first | (refine cS ?_ ?_ <;> intro hc)) <;> (refine mv ?_; refine KO_nil ?_)) | (refine K_region (id := 37) ?_; (first | (refine cS ?_ ?_ <;> intro hc)) <;> (refine mv ?_; refine KO_nil ?_)) | (refine K_region (id := 38) ?_; refine mv ?_; refine vl ?_; (first | (refine sB S rfl rfl ?_; clear S; intro h S)); refine KO_nil ?_)))
    all_goals (skip)
    all_goals (all_goals (repeat' (first | refine K_seq ?_ | refine k_cond rfl ?_ | refine K_skip ?_ | (refine K_region (id := 39) ?_; refine mv ?_; refine rm ?_; (first | (refine cS ?_ ?_ <;> intro hc)) <;> (refine KO_nil ?_)) | (refine K_region (id := 40) ?_; refine vl ?_; refine lB S rfl rfl ?_; refine mv ?_; refine ixB S ?_; refine fB S ?_; refine lEB S ?_; refine vl ?_; (first | (refine sB S rfl rfl ?_; clear S; intro h S)); refine KO_nil ?_) | (refine K_region (id := 41) ?_; refine lB S rfl rfl ?_; (first | (refine sB S rfl rfl ?_; clear S; intro h S)); refine mv ?_; refine KO_nil ?_))))
    all_goals (refine K_ret ⟨_, ret_cell S rfl (by first | exact .there .here) (by exact rfl) (by exact rfl), ?_⟩)
    all_goals first
      | exact ⟨⟨k, wt, [], [], (tb tabs ti).name, n⟩, true, rfl, fun _ p ht hu' => ruE_rest hkr hw (.inr (by rw [ht]; exact hT)) (.inl ⟨by omega, hn.1, by omega⟩), S.drop⟩
      | exact ⟨⟨k, wt, [], [], [], n⟩, true, rfl, fun _ p ht hu' => ruE_rest hkr hw (.inl rfl) (.inl ⟨by omega, hn.1, by omega⟩), S.drop⟩
      | exact ⟨⟨k, wt, [], [], (tb tabs ti).name, 0⟩, true, rfl, fun _ p ht hu' => ruE_rest hkr hw (.inr (by rw [ht]; exact hT)) (.inr rfl), S.drop⟩
      | exact ⟨⟨k, wt, [], [], [], 0⟩, true, rfl, fun _ p ht hu' => ruE_rest hkr hw (.inl rfl) (.inr rfl), S.drop⟩
end Go.Proofs.Xx
