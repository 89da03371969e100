/-
  A pair is put into the list; Tie.
-/
import Derived.Test.YtidmdnenlgjpeaaGreatDoorM9

namespace Go.Proofs.Xx
open Go Go.Proofs
set_option linter.unusedSimpArgs false
set_option linter.unusedVariables false
set_option maxRecDepth 100000
set_option linter.unusedSectionVars false

instance (x y : Ti) : Decidable (bef x y) := inferInstanceAs (Decidable (_ ∨ _))
/-- A tie of a pair. -/
def tiOf (a b : List UInt8) (k : Int) : Ti := ⟨sMin a b, sMax a b, k⟩
def tied (ts : List Ti) (a b : List UInt8) : Prop := ∃ t ∈ ts, t.a = sMin a b ∧ t.b = sMax a b
/-- One tie more, in order. -/
def putT : List Ti → Ti → List Ti
  | [], t => [t]
  | x :: r, t => if bef x t then x :: putT r t else t :: x :: r
open Classical in
noncomputable def tieF (r : Rl) (a b : List UInt8) (k : Int) : Rl × Int :=
  if (k ≠ 1 ∧ k ≠ 2) ∨ a = b then (r, 23) else if gat r.us a = none ∨ gat r.us b = none then (r, 6) else if tied r.ts a b then (r, 5) else if 256 ≤ r.ts.length then (r, 7) else (⟨r.us, putT r.ts (tiOf a b k)⟩, 0)
theorem putT_plc {t : Ti} : ∀ {l : List Ti} {i : Nat}, Plc l t i → putT l t = l.take i ++ t :: l.drop i
  | [], i, h => by simp [putT]
  | x :: r, 0, h => by
    have := h.2.2 0 (Nat.le_refl _) (by simp)
    show (if bef x t then _ else _) = _
    rw [if_neg (show ¬ bef x t from this)]; rfl
  | x :: r, i + 1, h => by
    have h0 := h.2.1 0 (Nat.succ_pos _)
    show (if bef x t then _ else _) = _
    rw [if_pos (show bef x t from h0), putT_plc (l := r) (i := i) ⟨by have := h.1; simp at this; omega, fun j hj => h.2.1 (j + 1) (by omega), fun j h1 h2 => h.2.2 (j + 1) (by omega) (by simp; omega)⟩]
    rfl
theorem Plc.tied {l : List Ti} {a b : List UInt8} {i : Nat} (hs : TS l) (h : Plc l ⟨sMin a b, sMax a b, 0⟩ i) : tied l a b ↔ i < l.length ∧ (l.getD i default).a = sMin a b ∧ (l.getD i default).b = sMax a b := by
  constructor
  · rintro ⟨t, ht, e1, e2⟩
    obtain ⟨j, hj, rfl⟩ := List.mem_iff_getElem.1 ht
    have eg : l.getD j default = l[j] := by rw [List.getD_eq_getElem?_getD, List.getElem?_eq_getElem hj]; rfl
    have hji : i ≤ j := by
      rcases Nat.lt_or_ge j i with q | q
      · have := h.2.1 j q
        rw [eg] at this
        rcases this with q | q
        · rw [e1] at q; exact absurd q (sLt_irr _)
        · rw [e2] at q; exact absurd q.2 (sLt_irr _)
      · exact q
    rcases Nat.lt_or_ge i j with q | q
    · have q1 := hs.lt q hj
      rw [eg] at q1
      refine absurd ?_ (h.2.2 i (Nat.le_refl _) (by omega))
      unfold bef at q1 ⊢
      rw [e1, e2] at q1
      exact q1
    · obtain rfl : i = j := by omega
      rw [eg]; exact ⟨hj, e1, e2⟩
  · rintro ⟨h1, h2, h3⟩
    refine ⟨_, List.getElem_mem h1, ?_⟩
    rw [show l[i] = l.getD i default by rw [List.getD_eq_getElem?_getD, List.getElem?_eq_getElem h1]; rfl]
    exact ⟨h2, h3⟩
theorem tieF_23 {r : Rl} {a b : List UInt8} {k : Int} (h : (k ≠ 1 ∧ k ≠ 2) ∨ a = b) : tieF r a b k = (r, 23) := by unfold tieF; rw [if_pos h]
theorem tieF_6 {r : Rl} {a b : List UInt8} {k : Int} (h : ¬ ((k ≠ 1 ∧ k ≠ 2) ∨ a = b)) (h2 : gat r.us a = none ∨ gat r.us b = none) : tieF r a b k = (r, 6) := by unfold tieF; rw [if_neg h, if_pos h2]
theorem tieF_5 {r : Rl} {a b : List UInt8} {k : Int} (h : ¬ ((k ≠ 1 ∧ k ≠ 2) ∨ a = b)) (h2 : ¬ (gat r.us a = none ∨ gat r.us b = none)) (h3 : tied r.ts a b) : tieF r a b k = (r, 5) := by unfold tieF; rw [if_neg h, if_neg h2, if_pos h3]
theorem tieF_7 {r : Rl} {a b : List UInt8} {k : Int} (h : ¬ ((k ≠ 1 ∧ k ≠ 2) ∨ a = b)) (h2 : ¬ (gat r.us a = none ∨ gat r.us b = none)) (h3 : ¬ tied r.ts a b) (h4 : 256 ≤ r.ts.length) : tieF r a b k = (r, 7) := by unfold tieF; rw [if_neg h, if_neg h2, if_neg h3, if_pos h4]
theorem tieF_0 {r : Rl} {a b : List UInt8} {k : Int} (h : ¬ ((k ≠ 1 ∧ k ≠ 2) ∨ a = b)) (h2 : ¬ (gat r.us a = none ∨ gat r.us b = none)) (h3 : ¬ tied r.ts a b) (h4 : ¬ 256 ≤ r.ts.length) : tieF r a b k = (⟨r.us, putT r.ts (tiOf a b k)⟩, 0) := by unfold tieF; rw [if_neg h, if_neg h2, if_neg h3, if_neg h4]
variable [Flag]
theorem insT_ok {h0 h : AH} {rs : List Rs} {vt : SlV} {v1 : Value} {l : List Ti} {t : Ti} (i : Nat) (hi : i ≤ l.length) (hl : l.length ≤ 1000000) (S : Hs h0 h (.sl v1 111 3 eRaw [eTi t] :: .sl vt.val 111 3 eTi l :: rs)) :
    Fn Tryz.prog Xh 88 [vt.val, .int .i64 i, v1] h (fun u h' => Hs h0 h' (.sl u 111 3 eTi (l.take i ++ t :: l.drop i) :: rs)) := by
  have hfl := flatMap_length (enc := eTi) (z := 3) (by intro _; rfl) l
  obtain ⟨f1, k1, k2, f2, k3, k4, k5⟩ := S.sep
  rcases k1 with ⟨-, k⟩ | ⟨vb, vo, vcc, vslk, vcap, rfl, g1, fv, t1, c1, s1⟩
  · cases k
  replace S : Hs h0 h (.sl (.slice (some ⟨vb, vo, none⟩) 1 vcap) 111 3 eRaw [eTi t] :: .sl vt.val 111 3 eTi l :: rs) := S
  show Fn Tryz.prog Xh 88 [vt.val, .int .i64 i, .slice (some ⟨vb, vo, none⟩) 1 vcap] h _
  by_cases hlt : i < l.length
  · rcases k3 with ⟨-, rfl⟩ | ⟨b, o, cc, slk, cap, e2, g2, fb, t2, c2, s2⟩
    · exact absurd hlt (by simp)
    rw [e2]
    have hne : (!Nat.beq b vb) = true := by
      cases hq : Nat.beq b vb with
      | false => rfl
      | true => have := Nat.eq_of_beq_eq_true hq; subst this; exact absurd fv (k4 b fb).2.2.2
    have hone : ((l.flatMap eTi).all one?) = true := by
      rw [List.all_eq_true]
      intro x hx
      obtain ⟨y, -, hy⟩ := List.mem_flatMap.1 hx
      simp [eTi] at hy
      rcases hy with rfl | rfl | rfl <;> rfl
    refine Fn_known (v := .slice (some ⟨h.next, 0, none⟩) (l.length + 1) (l.length + 1)) (h' := (h.put b .dead).add (.cells ((l.flatMap eTi).take (i * 3) ++ (eTi t ++ (l.flatMap eTi).drop (i * 3))) 111 (some 3) false)) ?_ ?_
    · show withIns X0 88 88 [.slice (some ⟨b, o, none⟩) l.length cap, .int .i64 (.ofNat i), .slice (some ⟨vb, vo, none⟩) 1 vcap] h = _
      unfold withIns
      have hb1 : Nat.blt i l.length = true := by rw [Nat.blt_eq]; exact hlt
      have t1' : takeAt vcc vo 3 = some (eTi t) := by simpa [eRaw] using t1
      have hc2 : Nat.ble (o + cap * 3) cc.length = true := Nat.ble_eq_true_of_le c2.2
      have hsz : Nat.ble ((l.length + 1) * 40) 1099511627776 = true := Nat.ble_eq_true_of_le (by omega)
      have hot : ((eTi t).all one?) = true := rfl
      simp only [show Nat.beq 88 88 = true from rfl, hb1, g2, g1, t2, t1', hc2, hsz, hone, hot, hne, Bool.and_true, show Nat.beq 111 111 = true from rfl]
      rcases s2 with rfl | rfl <;> rfl
    · have W := (S.wf.put (k4 b fb).2.1 .dead)
      have S2 : Hs h0 ((h.put b .dead).add (.cells ((l.flatMap eTi).take (i * 3) ++ (eTi t ++ (l.flatMap eTi).drop (i * 3))) 111 (some 3) false)) (.sl (.slice (some ⟨vb, vo, none⟩) 1 vcap) 111 3 eRaw [eTi t] :: .sl (.slice (some ⟨h.next, 0, none⟩) (l.length + 1) (l.length + 1)) 111 3 eTi (l.take i ++ t :: l.drop i) :: rs) := by
        refine S.turn (.there .here) (Nat.le_succ _) (W.add _) fun fp q1 q2 => ?_
        rcases q1 with ⟨q1, -⟩ | ⟨b2, o2, cc2, sl2, cap2, q1, -, q3, -⟩
        · rw [q1] at e2; cases e2
        obtain rfl : b2 = b := by rw [q1] at e2; cases e2; rfl
        refine ⟨fun j hj hf => ?_, fun j => j = h.next, .inr ⟨h.next, 0, (l.flatMap eTi).take (i * 3) ++ (eTi t ++ (l.flatMap eTi).drop (i * 3)), some 3, l.length + 1, ?_, ?_, rfl, ?_, ⟨?_, ?_⟩, .inr rfl⟩, fun j hj => ?_⟩
        · rw [AH.get_add, if_neg (by show j ≠ h.next; omega), AH.get_put, if_neg]
          intro q; subst q; exact hf q3
        · simp; omega
        · rw [AH.get_add]; exact if_pos rfl
        · have e : ((l.flatMap eTi).take (i * 3) ++ (eTi t ++ (l.flatMap eTi).drop (i * 3))) = (l.take i ++ t :: l.drop i).flatMap eTi := by
            rw [List.flatMap_append, List.flatMap_cons, flatMap_take (z := 3) (by intro _; rfl), flatMap_drop (z := 3) (by intro _; rfl)]
          rw [e]
          rw [← flatMap_length (enc := eTi) (z := 3) (by intro _; rfl)]
          exact takeAt_all _
        · simp; omega
        · simp [hfl, eTi]; omega
        · subst hj; exact ⟨Nat.lt_succ_self _, .inr (Nat.le_refl _)⟩
      exact S2.tail
  · obtain rfl : i = l.length := by omega
    have hX : Xh 88 [vt.val, .int .i64 l.length, .slice (some ⟨vb, vo, none⟩) 1 vcap] h = none := by
      rcases k3 with ⟨e2, rfl⟩ | ⟨b, o, cc, slk, cap, e2, -⟩
      · rw [e2]; rfl
      · rw [e2]
        show withIns X0 88 88 [.slice (some ⟨b, o, none⟩) l.length cap, .int .i64 (.ofNat l.length), .slice (some ⟨vb, vo, none⟩) 1 vcap] h = _
        unfold withIns
        have hb1 : Nat.blt l.length l.length = false := by rw [← Bool.not_eq_true, Nat.blt_eq]; omega
        simp only [show Nat.beq 88 88 = true from rfl, hb1]
        rfl
    have hr := Rd.of_sl S (.there .here)
    have hcap := S.capS (.there .here)
    refine Fn_K (hX) Tryz.func88 rfl rfl ?_
    all_goals (repeat' (first | refine K_seq ?_ | (refine K_region (id := 0) ?_; refine mv ?_; refine KO_nil ?_)))
    (repeat (refine K_seq ?_)); refine K_region (id := 1) ?_; refine mv ?_; refine mv ?_
    refine su l.length l.length hr hcap (fun v' _ _ => ?_)
    (refine KO_nil ?_)
    all_goals (repeat' (first | refine K_seq ?_ | refine k_cond rfl ?_ | refine K_skip ?_ | (refine K_region (id := 2) ?_; refine mv ?_; refine lnS S rfl rfl ?_; refine mv ?_; refine KO_nil ?_) | (refine K_region (id := 3) ?_; refine mv ?_; (first | (refine cS ?_ ?_ <;> intro hc)) <;> (refine KO_nil ?_)) | (refine K_region (id := 4) ?_; refine mv ?_; refine mv ?_; refine KO_nil ?_) | (refine K_region (id := 5) ?_; refine mv ?_; refine lnS S rfl rfl ?_; refine mv ?_; refine KO_nil ?_) | (refine K_region (id := 6) ?_; refine mv ?_; refine mv ?_; (refine cT ?_) <;> (refine KO_nil ?_)) | (refine K_region (id := 7) ?_; refine mv ?_; refine mv ?_)))
    · simp at hc
    · refine app (y0 := t) S rfl rfl ?_; clear S; intro v h S; (refine mv ?_; refine KO_nil ?_)
      all_goals (repeat' (fail))
      refine K_ret ⟨_, rfl, ?_⟩
      simp only [List.take_length, List.drop_length]
      exact S
    all_goals exact absurd rfl (by assumption)
theorem tie_ok {h0 h : AH} {rs : List Rs} {p : Nat} {r : Rl} (S : Hs h0 h (bookR p r :: rs)) (a b : List UInt8) (k : Int) (hl : r.ts.length ≤ 256) (hs : TS r.ts) :
    Fn Tryz.prog Xh 37 [.pointer (some ⟨p, 0, none⟩), str a, str b, .int .u8 k] h (fun v h' => v = .int .i64 (tieF r a b k).2 ∧ Hs h0 h' (bookR p (tieF r a b k).1 :: rs)) := by
  obtain ⟨⟨vg, vt, m, mp, gs⟩, ⟨q1, q2⟩, S⟩ := S.unpack
  have e1 : gs.length = r.us.length := by rw [← q1]; simp
  dsimp only [bkL, List.cons_append, List.nil_append] at q1 q2 S
  refine Fn_K rfl Tryz.func37 rfl rfl ?_
  all_goals (repeat' (first | refine K_seq ?_ | (refine K_region (id := 0) ?_; refine mv ?_; refine KO_nil ?_) | (refine K_region (id := 1) ?_; refine mv ?_)))
  (refine KO_fn rfl rfl rfl rfl rfl ((bnone_ok S.wf (blk_get S .here)).mono ?_); rintro _ h ⟨rfl, x⟩) <;> (replace S := S.join0 x; clear x; refine KO_nil ?_)
  all_goals (repeat' (first | refine K_seq ?_ | refine k_cond rfl ?_ | refine K_skip ?_))
  (repeat (refine K_seq ?_)); first | refine K_join (σ := Unit) (fun _ h' => ¬ ((k ≠ 1 ∧ k ≠ 2) ∨ a = b) ∧ Hs h0 h' (.blk p [vg.val, vt.val, .map (some m)] 86 :: .sl vg.val 24 9 eG gs :: .sl vt.val 111 3 eTi r.ts :: .mp m (.int .i64) mp :: tgR gs :: rs)) (fun _ => [(0, .pointer (some ⟨p, 0, none⟩)), (1, str a), (2, str b), (3, .int .u8 k)]) ?_ ?_
  · all_goals (repeat' (first | refine K_seq ?_ | refine k_cond rfl ?_ | refine K_skip ?_ | (refine K_region (id := 3) ?_; refine mv ?_; (first | (refine cS ?_ ?_ <;> intro hc)) <;> (refine mv ?_; (first | refine off ?_ | refine mv ?_); (first | refine off ?_ | (first | (refine cS ?_ ?_ <;> intro hc))) <;> (refine vl ?_; refine mv ?_; (first | refine off ?_ | refine mv ?_); (first | refine off ?_ | refine mv ?_); (first | refine off ?_ | (refine tS ?_ ?_ <;> intro hc)) <;> (refine vl ?_; refine KO_nil ?_)))) | (refine K_region (id := 4) ?_; refine mv ?_; refine KO_nil ?_)))
    all_goals first
      | exact ⟨(), ⟨by omega, S⟩, ((by repeat (fail)))⟩
      | exact ⟨(), ⟨by grind, S⟩, ((by repeat (first | exact Ks.le_nil _ | refine Ks.le_cons rfl ?_)))⟩
      | ((refine K_ret ⟨_, rfl, ?_⟩); rw [tieF_23 (by first | omega | grind)]; exact ⟨rfl, S.bk vg vt m mp gs q1 q2⟩)
  clear S
  rintro - h ⟨hk, S⟩
  all_goals (repeat' (first | refine K_seq ?_ | (refine K_region (id := 5) ?_; refine mv ?_; refine mv ?_)))
  refine bsn (α := List UInt8) (z := 1) eS [a, b] S ?_; clear S; intro u h S; ((refine lnS S rfl rfl ?_); refine mv ?_; refine KO_nil ?_)
  all_goals (repeat' (refine k_block ?_))
  refine k_loop (σ := Nat) (fun i h' => Hs h0 h' (.sl u 9 1 eS [a, b] :: .blk p [vg.val, vt.val, .map (some m)] 86 :: .sl vg.val 24 9 eG gs :: .sl vt.val 111 3 eTi r.ts :: .mp m (.int .i64) mp :: tgR gs :: rs) ∧ i ≤ 2 ∧ ∀ j, j < i → gat r.us ([a, b].getD j default) ≠ none) (fun i => 2 - i) (fun i => [(0, .pointer (some ⟨p, 0, none⟩)), (1, str a), (2, str b), (3, .int .u8 k), (30, u), (31, .int .i64 ([a, b].length : Nat)), (32, .int .i64 i)]) 0 (by repeat (first | exact Ks.le_nil _ | refine Ks.le_cons rfl ?_)) ?_ ?_
  · exact ⟨S, Nat.zero_le _, fun j hj => absurd hj (Nat.not_lt_zero _)⟩
  clear S
  rintro i h ⟨S, g1, g2⟩
  all_goals (repeat' (first | refine K_seq ?_ | refine k_cond rfl ?_ | refine K_skip ?_ | refine K_exit ?_ | refine k_block ?_ | (refine K_region (id := 6) ?_; (first | (refine cS ?_ ?_ <;> intro hc)) <;> (refine KO_nil ?_)) | (refine K_region (id := 7) ?_; refine ixS2 S rfl rfl ?_; refine lES2 S rfl rfl ?_; refine mv ?_; refine KO_nil ?_) | (refine K_region (id := 8) ?_; refine mv ?_; refine vl ?_; refine vl ?_; refine lB S rfl rfl ?_; refine mv ?_) | (refine K_region (id := 12) ?_; refine mv ?_; refine mv ?_; refine mv ?_; skip)))
  · have hi2 : i < 2 := by simp at hc; omega
    simp only [Int.toNat_natCast]
    refine lk S (.there (.there (.there (.there .here)))) (fun y hy => ?_) (fun hy => ?_)
    · simp only [okV]
      (refine mv ?_; refine vl ?_; refine vl ?_; refine mv ?_; refine mv ?_; refine KO_nil ?_)
      all_goals (repeat' (first | refine K_seq ?_ | refine k_cond rfl ?_ | refine K_skip ?_ | (refine K_region (id := 9) ?_; refine mv ?_; refine vl ?_; refine KO_nil ?_) | (refine K_region (id := 11) ?_; refine ad ?_; refine mv ?_; refine KO_nil ?_)))
      refine ⟨i + 1, ?_, ?_, (by repeat (first | exact Ks.le_nil _ | refine Ks.le_cons rfl ?_))⟩
      · show 2 - (i + 1) < 2 - i; omega
      · refine ⟨S, by omega, nxtD g2 fun q => ?_⟩
        rw [q2, q] at hy; cases hy
    · simp only [okV]
      (refine mv ?_; refine vl ?_; refine vl ?_; refine mv ?_; refine mv ?_; refine KO_nil ?_)
      all_goals (repeat' (first | refine K_seq ?_ | refine k_cond rfl ?_ | (refine K_region (id := 9) ?_; refine mv ?_; refine vl ?_; refine KO_nil ?_) | (refine K_region (id := 10) ?_; refine mv ?_; refine KO_nil ?_)))
      refine K_ret ⟨_, rfl, ?_⟩
      rw [q2] at hy
      have hn : gat r.us ([a, b].getD i default) = none := by
        cases hq : gat r.us ([a, b].getD i default) with
        | none => rfl
        | some z => rw [hq] at hy; cases hy
      rw [tieF_6 hk (by
        rcases (show i = 0 ∨ i = 1 by omega) with rfl | rfl
        · exact .inl hn
        · exact .inr hn)]
      exact ⟨rfl, S.bk vg vt m mp gs q1 q2⟩
  · have hi2 : i = 2 := by simp at hc; omega
    have hk2 : ¬ (gat r.us a = none ∨ gat r.us b = none) := fun q => by
      rcases q with q | q
      · exact g2 0 (by omega) q
      · exact g2 1 (by omega) q
    (refine KO_fn rfl rfl rfl rfl rfl ((place_ok S.wf (blk_get S (.there .here)) (Rd.of_sl S (.there (.there (.there .here)))) (by omega) hs a b).mono ?_); rintro _ h ⟨⟨j, _ | _, rfl, p1, p2⟩, x⟩) <;> (replace S := S.join0 x; clear x; refine mv ?_; refine vl ?_; refine vl ?_; refine mv ?_; refine mv ?_; refine KO_nil ?_)
    · have hk3 : ¬ tied r.ts a b := fun q => by have := p2.2 ((p1.tied hs).1 q); cases this
      all_goals (repeat' (first | refine K_seq ?_ | refine k_cond rfl ?_ | refine K_skip ?_ | (refine K_region (id := 13) ?_; refine mv ?_; refine KO_nil ?_) | (refine K_region (id := 15) ?_; refine mv ?_; refine vl ?_; refine vl ?_; refine vl ?_; refine lB S rfl rfl ?_; refine lnS S rfl rfl ?_; (first | (refine cS ?_ ?_ <;> intro hc)) <;> (refine KO_nil ?_)) | (refine K_region (id := 16) ?_; refine mv ?_; refine KO_nil ?_)))
      · refine K_ret ⟨_, rfl, ?_⟩
        rw [tieF_7 hk hk2 hk3 (by omega)]
        exact ⟨rfl, S.bk vg vt m mp gs q1 q2⟩
      · have hk4 : ¬ 256 ≤ r.ts.length := by omega
        (repeat (refine K_seq ?_)); refine K_drawX (id := 17) [(5, (0, 2))] [some (p)] ?_; refine KX_cons ?_; (first | (refine mv ?_ <;> refine KO_nil ⟨⟨by (first | exact True.intro), rfl⟩, ?_⟩)); refine KX_cons ?_; (first | (refine mv ?_ <;> refine KO_nil ⟨⟨by (first | exact True.intro), rfl⟩, ?_⟩)); refine KX_cons ?_; (first | (refine vl ?_ <;> refine KO_nil ⟨⟨by (first | exact True.intro), rfl⟩, ?_⟩)); refine KX_cons ?_; (first | (refine vl ?_ <;> refine KO_nil ⟨⟨by (first | exact True.intro), rfl⟩, ?_⟩)); refine KX_cons ?_; (first | (refine vl ?_ <;> refine KO_nil ⟨⟨by (first | exact True.intro), rfl⟩, ?_⟩)); refine KX_cons ?_; (first | (refine lB S rfl rfl ?_ <;> refine KO_nil ⟨⟨by (first | exact Or.inr rfl), rfl⟩, ?_⟩)); refine KX_cons ?_; (first | (refine mv ?_ <;> refine KO_nil ⟨⟨by (first | exact True.intro), rfl⟩, ?_⟩)); refine KX_cons ?_; (first | (refine mv ?_ <;> refine KO_nil ⟨⟨by (first | exact True.intro), rfl⟩, ?_⟩)); refine KX_cons ?_; (first | (refine mv ?_ <;> refine KO_nil ⟨⟨by (first | exact True.intro), rfl⟩, ?_⟩)); refine KX_cons ?_; (first | (refine mv ?_ <;> refine KO_nil ⟨⟨by (first | exact True.intro), rfl⟩, ?_⟩))
        ((refine KX_cons ?_; first | refine KO_fn rfl rfl rfl rfl rfl ((pair_ok S.wf a b k).mono ?_)); rintro _ h ⟨rfl, x⟩) <;> ((refine KO_nil ⟨⟨True.intro, ?_⟩, ?_⟩; (focus ((show keepsX _ _ _ _ _; simp only [keepsX]; (repeat' (first | exact True.intro | refine And.intro ?_ ?_)); all_goals (intro hw; first | exact x.ext.old _ S.bB))))); replace S := S.join0 x; clear x; refine KX_cons ?_; (first | ((refine one 3 S ?_; have S0 := S; clear S; intro u h S); refine KO_nil ⟨⟨True.intro, ?_⟩, ?_⟩; (focus ((show keepsX _ _ _ _ _; simp only [keepsX]; (repeat' (first | exact True.intro | refine And.intro ?_ ?_)); all_goals (intro hw; first | exact (S.gB).trans (S0.gB).symm)))); clear S0)))
        replace S : Hs h0 _ (.sl u 111 3 eRaw [eTi (tiOf a b k)] :: _) := S
        have S := (show Hs h0 _ (.sl u 111 3 eRaw [eTi (tiOf a b k)] :: .sl vt.val 111 3 eTi r.ts :: .blk p [vg.val, vt.val, .map (some m)] 86 :: .sl vg.val 24 9 eG gs :: .mp m (.int .i64) mp :: tgR gs :: rs) from S.pick)
        refine KX_cons ?_; refine KO_fn rfl rfl rfl rfl rfl ((insT_ok j p1.1 (by omega) S).mono ?_); have S0 := S; clear S; rintro v h S; obtain ⟨vt', rfl⟩ := S.sV v; refine KO_nil ⟨⟨True.intro, ?_⟩, ?_⟩; (focus ((show keepsX _ _ _ _ _; simp only [keepsX]; (repeat' (first | exact True.intro | refine And.intro ?_ ?_)); all_goals (intro hw; first | exact (S.gB).trans (S0.gB).symm)))); clear S0; (refine KX_cons ?_; (first | (refine vl ?_ <;> refine KO_nil ⟨⟨by (first | exact True.intro), rfl⟩, ?_⟩)); refine KX_cons ?_; (first | (refine vl ?_ <;> refine KO_nil ⟨⟨by (first | exact True.intro), rfl⟩, ?_⟩)); refine KX_cons ?_; (first | (refine vl ?_ <;> refine KO_nil ⟨⟨by (first | exact True.intro), rfl⟩, ?_⟩)); refine KX_cons ?_; (first | ((refine sB S rfl rfl ?_; have S0 := S; clear S; intro h S); refine KO_nil ⟨⟨True.intro, ?_⟩, ?_⟩; (focus ((show keepsX _ _ _ _ _; simp only [keepsX]; (repeat' (first | exact True.intro | refine And.intro ?_ ?_)); all_goals (intro hw; first | exact absurd hw (by decide +kernel))))); clear S0)); refine KX_nil ?_)
        all_goals (repeat' (first | refine K_seq ?_ | (refine K_region (id := 18) ?_; refine mv ?_; refine KO_nil ?_)))
        refine K_ret ⟨_, rfl, ?_⟩
        rw [tieF_0 hk hk2 hk3 hk4, putT_plc (t := tiOf a b k) p1]
        replace S : Hs h0 h (.sl vt'.val 111 3 eTi (r.ts.take j ++ tiOf a b k :: r.ts.drop j) :: .blk p [vg.val, vt'.val, .map (some m)] 86 :: _) := S
        exact ⟨rfl, S.bk vg vt' m mp gs q1 q2⟩
    · have hk3 : tied r.ts a b := (p1.tied hs).2 (p2.1 rfl)
      skip
      all_goals (repeat' (first | refine K_seq ?_ | refine k_cond rfl ?_ | (refine K_region (id := 13) ?_; refine mv ?_; refine KO_nil ?_) | (refine K_region (id := 14) ?_; refine mv ?_; refine KO_nil ?_)))
      refine K_ret ⟨_, rfl, ?_⟩
      rw [tieF_5 hk hk2 hk3]
      exact ⟨rfl, S.bk vg vt m mp gs q1 q2⟩
end Go.Proofs.Xx

/-
  Rolls that are right; Load.
-/
namespace Go.Proofs.Xx
open Go Go.Proofs
set_option linter.unusedSimpArgs false
set_option linter.unusedVariables false
set_option linter.unusedSectionVars false
set_option maxRecDepth 100000

/-- v is a roll that reads as r. -/
structure RlV where
  vg : SlV
  vt : SlV
  gs : List Gst
def RlV.val (v : RlV) : Value := .agg #[v.vg.val, v.vt.val]
structure RlOk (h : AH) (v : RlV) (r : Rl) : Prop where
  rg : RdL h v.vg.val 9 eG v.gs
  rt : RdL h v.vt.val 3 eTi r.ts
  tg : ∀ i, i < v.gs.length → RdL h (v.gs.getD i default).tv.val 1 eS (v.gs.getD i default).tg ∧ (v.gs.getD i default).tg.length ≤ 9223372036854775807
  us : v.gs.map (·.toGu) = r.us
  lg : r.us.length ≤ 9223372036854775807
  lt : r.ts.length ≤ 9223372036854775807
theorem RlOk.ext {h h' : AH} {v : RlV} {r : Rl} (a : RlOk h v r) (w : WfH h) (x : Ext h h') : RlOk h' v r := ⟨a.rg.ext w x, a.rt.ext w x, fun i hi => ⟨(a.tg i hi).1.ext w x, (a.tg i hi).2⟩, a.us, a.lg, a.lt⟩
theorem RlOk.len {h : AH} {v : RlV} {r : Rl} (a : RlOk h v r) : v.gs.length = r.us.length := by rw [← a.us]; simp
theorem map_getD {α β : Type} [Inhabited α] [Inhabited β] {f : α → β} {l : List α} {i : Nat} (hi : i < l.length) : (l.map f).getD i default = f (l.getD i default) := by
  rw [List.getD_eq_getElem?_getD, List.getD_eq_getElem?_getD, List.getElem?_map, List.getElem?_eq_getElem hi]; rfl
theorem RlOk.at_ {h : AH} {v : RlV} {r : Rl} (a : RlOk h v r) {i : Nat} (hi : i < v.gs.length) : (v.gs.getD i default).toGu = r.us.getD i default := by rw [← a.us, map_getD hi]
/-- What is wrong with the i-th guest, behind those ahead of it. -/
noncomputable def gE0 (us : List Gu) (i : Nat) : Int := (addF ⟨us.take i, []⟩ (us.getD i default)).2
open Classical in
/-- What is wrong with the i-th tie. -/
noncomputable def tE0 (r : Rl) (i : Nat) : Int :=
  if sLt (r.ts.getD i default).a (r.ts.getD i default).b ∧ (i = 0 ∨ ¬ bef (r.ts.getD i default) (r.ts.getD (i - 1) default)) then (tieF ⟨r.us, r.ts.take i⟩ (r.ts.getD i default).a (r.ts.getD i default).b (r.ts.getD i default).k).2 else 23
/-- A right roll. -/
def VRl (r : Rl) : Prop := (∀ i, i < r.us.length → gE0 r.us i = 0) ∧ ∀ i, i < r.ts.length → tE0 r i = 0
/-- The first thing that is wrong in a roll. -/
def Bad (r : Rl) (i e : Int) : Prop := e ≠ 0 ∧ ((∃ j : Nat, j < r.us.length ∧ (∀ k, k < j → gE0 r.us k = 0) ∧ gE0 r.us j = e ∧ i = j) ∨ ((∀ k, k < r.us.length → gE0 r.us k = 0) ∧ ∃ j : Nat, j < r.ts.length ∧ (∀ k, k < j → tE0 r k = 0) ∧ tE0 r j = e ∧ i = r.us.length + j))
theorem Bad.not {r : Rl} {i e : Int} (a : Bad r i e) : ¬ VRl r := fun v => by
  obtain ⟨h1, ⟨j, a1, a2, a3, a4⟩ | ⟨a0, j, a1, a2, a3, a4⟩⟩ := a
  · exact h1 (a3 ▸ v.1 j a1)
  · exact h1 (a3 ▸ v.2 j a1)
theorem addF_zero {r : Rl} {g : Gu} (h : (addF r g).2 = 0) : chkG g = 0 ∧ gat r.us g.name = none ∧ r.us.length < 64 ∧ (addF r g).1 = ⟨r.us ++ [g], r.ts⟩ := by
  by_cases h1 : chkG g = 0
  · by_cases h2 : gat r.us g.name = none
    · by_cases h3 : 64 ≤ r.us.length
      · rw [addF_7 h1 h2 h3] at h; cases h
      · rw [addF_0 h1 h2 h3]; exact ⟨h1, h2, by omega, rfl⟩
    · rw [addF_5 h1 h2] at h; cases h
  · rw [addF_e h1] at h; exact absurd h h1
theorem tieF_zero {r : Rl} {a b : List UInt8} {k : Int} (h : (tieF r a b k).2 = 0) : (k = 1 ∨ k = 2) ∧ a ≠ b ∧ gat r.us a ≠ none ∧ gat r.us b ≠ none ∧ ¬ tied r.ts a b ∧ r.ts.length < 256 ∧ (tieF r a b k).1 = ⟨r.us, putT r.ts (tiOf a b k)⟩ := by
  by_cases h1 : (k ≠ 1 ∧ k ≠ 2) ∨ a = b
  · rw [tieF_23 h1] at h; cases h
  · by_cases h2 : gat r.us a = none ∨ gat r.us b = none
    · rw [tieF_6 h1 h2] at h; cases h
    · by_cases h3 : tied r.ts a b
      · rw [tieF_5 h1 h2 h3] at h; cases h
      · by_cases h4 : 256 ≤ r.ts.length
        · rw [tieF_7 h1 h2 h3 h4] at h; cases h
        · rw [tieF_0 h1 h2 h3 h4]
          exact ⟨by omega, fun q => h1 (.inr q), fun q => h2 (.inl q), fun q => h2 (.inr q), h3, by omega, rfl⟩
theorem take_succ_getD {α : Type} [Inhabited α] {l : List α} {i : Nat} (hi : i < l.length) : l.take (i + 1) = l.take i ++ [l.getD i default] := by
  rw [List.take_add_one, List.getD_eq_getElem?_getD, List.getElem?_eq_getElem hi]; rfl
theorem gE0_len {us : List Gu} {i : Nat} (hi : i ≤ us.length) (h : ∀ k, k < i → gE0 us k = 0) : i ≤ 64 := by
  cases i with
  | zero => omega
  | succ i =>
    have := (addF_zero (h i (Nat.lt_succ_self i))).2.2.1
    simp at this; omega
theorem getD_take {α : Type} [Inhabited α] {l : List α} {i j : Nat} (h : j < i) : (l.take i).getD j default = l.getD j default := by
  rw [List.getD_eq_getElem?_getD, List.getD_eq_getElem?_getD, List.getElem?_take, if_pos h]
theorem TS.mk_ {ts : List Ti} (h : ∀ i j, i < j → j < ts.length → bef (ts.getD i default) (ts.getD j default)) : TS ts := by
  rw [TS, List.pairwise_iff_getElem]
  intro i j hi hj hij
  have := h i j hij hj
  rw [List.getD_eq_getElem?_getD, List.getD_eq_getElem?_getD, List.getElem?_eq_getElem hj, List.getElem?_eq_getElem hi] at this
  exact this
theorem TS.app {ts : List Ti} {t : Ti} (h : TS ts) (h2 : ∀ j, j < ts.length → bef (ts.getD j default) t) : TS (ts ++ [t]) := TS.mk_ fun i j hij hj => by
  simp at hj
  rw [gA1 (show i < ts.length by omega)]
  rcases Nat.lt_or_ge j ts.length with q | q
  · rw [gA1 q]; exact h.lt hij q
  · obtain rfl : j = ts.length := by omega
    rw [gA2 (Nat.le_refl _), Nat.sub_self]; exact h2 i (by omega)
theorem tE0_zero {r : Rl} {i : Nat} (h : tE0 r i = 0) : sLt (r.ts.getD i default).a (r.ts.getD i default).b ∧ (i = 0 ∨ ¬ bef (r.ts.getD i default) (r.ts.getD (i - 1) default)) ∧ (tieF ⟨r.us, r.ts.take i⟩ (r.ts.getD i default).a (r.ts.getD i default).b (r.ts.getD i default).k).2 = 0 := by
  unfold tE0 at h
  split at h
  · rename_i q; exact ⟨q.1, q.2, h⟩
  · cases h
theorem sMin_lt {a b : List UInt8} (h : sLt a b) : sMin a b = a := by unfold sMin; rw [if_neg (sLt_asymm h)]
theorem sMax_lt {a b : List UInt8} (h : sLt a b) : sMax a b = b := by unfold sMax; rw [if_pos h]
theorem tE0_ts {r : Rl} : ∀ {i : Nat}, i ≤ r.ts.length → (∀ k, k < i → tE0 r k = 0) → TS (r.ts.take i) ∧ (i < r.ts.length → tE0 r i = 0 → ∀ j, j < i → bef (r.ts.getD j default) (r.ts.getD i default))
  | i, hi, h => by
    have key : ∀ i, i ≤ r.ts.length → (∀ k, k < i → tE0 r k = 0) → TS (r.ts.take i) → i < r.ts.length → tE0 r i = 0 → ∀ j, j < i → bef (r.ts.getD j default) (r.ts.getD i default) := by
      intro i hi h hs hl h0 j hj
      obtain ⟨z1, z2, z3⟩ := tE0_zero h0
      have z4 := (tieF_zero z3).2.2.2.2.1
      have hp : bef (r.ts.getD (i - 1) default) (r.ts.getD i default) := by
        rcases bef_tri (r.ts.getD (i - 1) default) (r.ts.getD i default) with q | ⟨e1, e2⟩ | q
        · exact q
        · refine absurd ⟨r.ts.getD (i - 1) default, ?_, ?_⟩ z4
          · rw [← getD_take (show i - 1 < i by omega)]
            have hl2 : i - 1 < (r.ts.take i).length := by simp; omega
            rw [List.getD_eq_getElem?_getD, List.getElem?_eq_getElem hl2]
            exact List.getElem_mem hl2
          · rw [sMin_lt z1, sMax_lt z1]; exact ⟨e1, e2⟩
        · rcases z2 with z2 | z2
          · omega
          · exact absurd q z2
      rcases Nat.lt_or_ge j (i - 1) with q | q
      · have hl2 : i - 1 < (r.ts.take i).length := by simp; omega
        have := hs.lt q hl2
        rw [getD_take (by omega), getD_take (by omega)] at this
        exact bef_trans this hp
      · obtain rfl : j = i - 1 := by omega
        exact hp
    have all : ∀ i, i ≤ r.ts.length → (∀ k, k < i → tE0 r k = 0) → TS (r.ts.take i) := by
      intro i
      induction i with
      | zero => intro _ _; simp [TS]
      | succ i ih =>
        intro hi h
        have hs := ih (by omega) fun k hk => h k (by omega)
        rw [take_succ_getD (by omega)]
        refine hs.app fun j hj => ?_
        simp at hj
        rw [getD_take (by omega)]
        exact key i (by omega) (fun k hk => h k (by omega)) hs (by omega) (h i (by omega)) j (by omega)
    exact ⟨all i hi h, key i hi h (all i hi h)⟩
theorem tE0_len {r : Rl} {i : Nat} (hi : i ≤ r.ts.length) (h : ∀ k, k < i → tE0 r k = 0) : i ≤ 256 := by
  cases i with
  | zero => omega
  | succ i =>
    have := (tieF_zero (tE0_zero (h i (Nat.lt_succ_self i))).2.2).2.2.2.2.2.1
    simp at this; omega
theorem tE0_put {r : Rl} {i : Nat} (hi : i < r.ts.length) (h : ∀ k, k < i → tE0 r k = 0) (h0 : tE0 r i = 0) : (tieF ⟨r.us, r.ts.take i⟩ (r.ts.getD i default).a (r.ts.getD i default).b (r.ts.getD i default).k).1 = ⟨r.us, r.ts.take (i + 1)⟩ := by
  obtain ⟨z1, z2, z3⟩ := tE0_zero h0
  rw [(tieF_zero z3).2.2.2.2.2.2]
  have e : tiOf (r.ts.getD i default).a (r.ts.getD i default).b (r.ts.getD i default).k = r.ts.getD i default := by unfold tiOf; rw [sMin_lt z1, sMax_lt z1]
  have hl : (r.ts.take i).length = i := by simp; omega
  show (⟨r.us, putT (r.ts.take i) _⟩ : Rl) = _
  rw [e, putT_plc (i := i) ⟨by omega, fun j hj => by rw [getD_take hj]; exact (tE0_ts (by omega) h).2 hi h0 j hj, fun j h1 h2 => by omega⟩, take_succ_getD hi]
  simp [List.take_take]
theorem cmp_le {c : Int} {x t : Ti} (e1 : c < 0 ↔ bef x t) (e2 : c = 0 ↔ x.a = t.a ∧ x.b = t.b) : c ≤ 0 ↔ ¬ bef t x := by
  constructor
  · intro z q
    rcases Int.lt_or_eq_of_le z with z | z
    · exact bef_irr _ (bef_trans (e1.1 z) q)
    · have := e2.1 z
      rcases q with q | q
      · rw [this.1] at q; exact sLt_irr _ q
      · rw [this.2] at q; exact sLt_irr _ q.2
  · intro z
    rcases bef_tri x t with q | q | q
    · have := e1.2 q; omega
    · have := e2.2 q; omega
    · exact absurd q z
variable [Flag]
theorem load_ok {h0 : AH} (w : WfH h0) (v : RlV) (r : Rl) (H : RlOk h0 v r) :
    Fn Tryz.prog Xh 33 [v.val] h0 (fun u h' => (∃ p, u = .tuple #[.pointer (some ⟨p, 0, none⟩), .int .i64 0, .int .i64 0] ∧ VRl r ∧ Hs h0 h' [bookR p r]) ∨ (∃ i e, u = .tuple #[.pointer none, .int .i64 i, .int .i64 e] ∧ Bad r i e ∧ Hs h0 h' [])) := by
  have S := Hs.start w
  have hgl := H.len
  have hrg := H.rg
  have hrt := H.rt
  have hlg := H.lg
  have hlt := H.lt
  unfold RlV.val
  refine Fn_K rfl Tryz.func33 rfl rfl ?_
  all_goals (repeat' (first | refine K_seq ?_ | (refine K_region (id := 0) ?_; (refine bx S ?_; clear S; intro b h S); refine mv ?_; refine mv ?_; refine mv ?_; refine KO_nil ?_) | (refine K_region (id := 1) ?_; skip)))
  (refine KO_fn rfl rfl rfl rfl rfl ((new_ok S.wf).mono ?_); rintro _ h ⟨p, rfl, x⟩) <;> (replace S := S.join1 x; clear x; refine mv ?_; refine KO_nil ?_)
  all_goals (repeat' (first | refine K_seq ?_ | refine k_block ?_ | (refine K_region (id := 2) ?_; refine vl ?_; refine lB S rfl rfl ?_; refine lnB S ?_; refine mv ?_; refine KO_nil ?_)))
  obtain ⟨q, hnm⟩ : ∃ x, x = b := ⟨_, rfl⟩; subst hnm
  replace S : Hs h0 h [bookR p ⟨[], []⟩, .blk q [v.vg.val, v.vt.val] 32] := S
  refine k_loop (σ := Nat) (fun i h' => Hs h0 h' [bookR p ⟨r.us.take i, []⟩, .blk q [v.vg.val, v.vt.val] 32] ∧ i ≤ r.us.length ∧ ∀ k, k < i → gE0 r.us k = 0) (fun i => r.us.length - i) (fun i => [(1, .pointer (some ⟨q, 0, none⟩)), (5, .pointer (some ⟨p, 0, none⟩)), (14, v.vg.val), (15, .int .i64 v.gs.length), (16, .int .i64 i)]) 0 (by repeat (first | exact Ks.le_nil _ | refine Ks.le_cons rfl ?_)) ?_ ?_
  · exact ⟨S, Nat.zero_le _, fun j hj => absurd hj (Nat.not_lt_zero _)⟩
  clear S
  rintro i h ⟨S, g1, g2⟩
  have hi64 := gE0_len g1 g2
  all_goals (repeat' (first | refine K_seq ?_ | refine k_cond rfl ?_ | refine K_skip ?_ | refine K_exit ?_ | refine k_block ?_ | (refine K_region (id := 3) ?_; (first | (refine cS ?_ ?_ <;> intro hc)) <;> (refine KO_nil ?_)) | (refine K_region (id := 4) ?_; refine mv ?_; refine ixB S ?_; refine lEB S ?_; (refine al S ?_; clear S; intro b h S); refine mv ?_; (first | (refine sB S rfl rfl ?_; clear S; intro h S)); refine KO_nil ?_) | (refine K_region (id := 5) ?_; refine mv ?_; refine lB S rfl rfl ?_) | (refine K_region (id := 9) ?_; refine vl ?_; refine lB S rfl rfl ?_; refine lnB S ?_; refine mv ?_; refine KO_nil ?_)))
  · have hil : i < v.gs.length := by omega
    have hat := H.at_ hil
    simp only [Int.toNat_natCast] at S
    simp only [Int.toNat_natCast]
    have htl : (r.us.take i).length ≤ 64 := by simp; omega
    (refine KO_fn rfl rfl rfl rfl rfl ((add_ok (S.front (.there .here)) (v.gs.getD i default) (RdS.base w (H.tg i hil).1) (H.tg i hil).2 htl).mono ?_); rintro _ h ⟨rfl, S⟩) <;> (refine mv ?_; refine KO_nil ?_)
    rw [hat] at S
    simp only [hat]
    all_goals (repeat' (first | refine K_seq ?_ | refine k_cond rfl ?_ | refine K_skip ?_ | (refine K_region (id := 6) ?_; refine mv ?_; (first | (refine cS ?_ ?_ <;> intro hc)) <;> (refine KO_nil ?_)) | (refine K_region (id := 7) ?_; refine mv ?_; refine mv ?_; refine mv ?_; refine mv ?_; refine mv ?_; refine KO_nil ?_) | (refine K_region (id := 8) ?_; refine ad ?_; refine mv ?_; refine KO_nil ?_)))
    · refine K_ret ⟨_, rfl, ?_⟩
      exact .inr ⟨i, _, rfl, ⟨hc, .inl ⟨i, by omega, g2, rfl, rfl⟩⟩, S.drop⟩
    · have hz : gE0 r.us i = 0 := Classical.not_not.1 hc
      rw [(addF_zero hz).2.2.2] at S
      refine ⟨i + 1, ?_, ?_, (by repeat (first | exact Ks.le_nil _ | refine Ks.le_cons rfl ?_))⟩
      · show r.us.length - (i + 1) < r.us.length - i; omega
      · refine ⟨?_, by omega, nxtD g2 hz⟩
        rw [take_succ_getD (by omega)]
        exact S.pick
  · obtain rfl : i = r.us.length := by omega
    rw [List.take_length] at S
    refine k_loop (σ := Nat) (fun i h' => Hs h0 h' [bookR p ⟨r.us, r.ts.take i⟩, .blk q [v.vg.val, v.vt.val] 32] ∧ i ≤ r.ts.length ∧ ∀ k, k < i → tE0 r k = 0) (fun i => r.ts.length - i) (fun i => [(1, .pointer (some ⟨q, 0, none⟩)), (5, .pointer (some ⟨p, 0, none⟩)), (30, v.vt.val), (31, .int .i64 r.ts.length), (32, .int .i64 i)]) 0 (by repeat (first | exact Ks.le_nil _ | refine Ks.le_cons rfl ?_)) ?_ ?_
    · exact ⟨S, Nat.zero_le _, fun j hj => absurd hj (Nat.not_lt_zero _)⟩
    clear S
    rintro i h ⟨S, k1, k2⟩
    have hi256 := tE0_len k1 k2
    have hTS := (tE0_ts k1 k2).1
    have htl : (r.ts.take i).length ≤ 256 := by simp; omega
    all_goals (repeat' (first | refine K_seq ?_ | refine k_cond rfl ?_ | refine K_skip ?_ | refine K_exit ?_ | refine k_block ?_ | (refine K_region (id := 10) ?_; (first | (refine cS ?_ ?_ <;> intro hc)) <;> (refine KO_nil ?_)) | (refine K_region (id := 11) ?_; refine mv ?_; refine ixB S ?_; refine lEB S ?_; (refine al S ?_; clear S; intro b h S); refine mv ?_; (first | (refine sB S rfl rfl ?_; clear S; intro h S)); refine KO_nil ?_) | (refine K_region (id := 12) ?_; refine mv ?_; refine KO_nil ?_) | (refine K_region (id := 18) ?_; refine mv ?_; refine mv ?_; refine mv ?_; refine mv ?_; refine KO_nil ?_)))
    · obtain ⟨t, ht⟩ : ∃ t, t = r.ts.getD i default := ⟨_, rfl⟩
      simp only [Int.toNat_natCast] at S
      simp only [Int.toNat_natCast]
      replace S : Hs h0 h [.blk b (eTi t) 111, bookR p ⟨r.us, r.ts.take i⟩, .blk q [v.vg.val, v.vt.val] 32] := by rw [ht]; exact S
      (repeat (refine K_seq ?_)); first | refine K_join (σ := Rl) (fun r' h' => Hs h0 h' [bookR p r', .blk q [v.vg.val, v.vt.val] 32] ∧ (tE0 r i = 0 → r' = ⟨r.us, r.ts.take (i + 1)⟩)) (fun r' => [(1, .pointer (some ⟨q, 0, none⟩)), (5, .pointer (some ⟨p, 0, none⟩)), (9, .int .i64 i), (11, .int .i64 (tE0 r i)), (30, v.vt.val), (31, .int .i64 r.ts.length), (32, .int .i64 i)]) ?_ ?_
      · have he1 : sLt t.a t.b → (i = 0 ∨ ¬ bef t (r.ts.getD (i - 1) default)) → tE0 r i = (tieF ⟨r.us, r.ts.take i⟩ t.a t.b t.k).2 := fun z1 z2 => by rw [ht] at z1 z2 ⊢; unfold tE0; rw [if_pos ⟨z1, z2⟩]
        have he2 : ¬ (sLt t.a t.b ∧ (i = 0 ∨ ¬ bef t (r.ts.getD (i - 1) default))) → tE0 r i = 23 := fun z => by rw [ht] at z; unfold tE0; rw [if_neg z]
        have he3 : tE0 r i = 0 → (tieF ⟨r.us, r.ts.take i⟩ t.a t.b t.k).1 = ⟨r.us, r.ts.take (i + 1)⟩ := fun z => by rw [ht]; exact tE0_put (by omega) k2 z
        all_goals (repeat' (first | refine k_cond rfl ?_ | refine K_skip ?_ | (refine K_draw (id := 13) ?_; refine vl ?_; refine lB S rfl rfl ?_; refine vl ?_; refine lB S rfl rfl ?_; (refine tO ?_ ?_ <;> intro hc) <;> (refine mv ?_; (first | refine off ?_ | refine mv ?_); (first | refine off ?_ | (first | (refine cS ?_ ?_ <;> intro hc))) <;> ((first | refine off ?_ | refine mv ?_); (first | refine off ?_ | (refine vl ?_)); (first | refine off ?_ | (refine lB S rfl rfl ?_)); (first | refine off ?_ | refine mv ?_); (first | refine off ?_ | (refine sb ?_)); (first | refine off ?_ | (refine ixB S ?_)); (first | refine off ?_ | (refine lEB S ?_)); (first | refine off ?_ | (refine lB S rfl rfl ?_)); (first | (refine off ?_; (refine off ?_) <;> ((first | refine off ?_ | refine vl ?_); refine vl ?_; refine KO_nil ?_)) | skip))))))
        · all_goals (repeat' (first | (refine K_region (id := 14) ?_; refine mv ?_; refine vl ?_; refine lB S rfl rfl ?_; refine vl ?_; refine lB S rfl rfl ?_; refine vl ?_; refine lB S rfl rfl ?_)))
          (refine KO_fn rfl rfl rfl rfl rfl ((tie_ok (S.front (.there .here)) t.a t.b t.k htl hTS).mono ?_); rintro _ h ⟨rfl, S⟩) <;> (refine mv ?_; refine KO_nil ?_)
          have he := he1 (by assumption) (.inl (by omega))
          refine ⟨_, ⟨S.pick, he3⟩, ?_⟩
          rw [he]
          exact (by repeat (first | exact Ks.le_nil _ | refine Ks.le_cons rfl ?_))
        · (refine KO_fn rfl rfl rfl rfl rfl ((order_ok S.wf (r.ts.getD ((i : Int) - 1).toNat default) t).mono ?_); rintro _ h ⟨⟨c, rfl, e1, e2⟩, x⟩) <;> (replace S := S.join0 x; clear x; (first | (first | (refine cS ?_ ?_ <;> intro hc))) <;> ((refine vl ?_); refine vl ?_; refine KO_nil ?_))
          all_goals rw [show ((i : Int) - 1).toNat = i - 1 by omega] at e1 e2
          all_goals have ec := cmp_le e1 e2
          all_goals (repeat' (first | refine k_cond rfl ?_ | refine K_skip ?_))
          · all_goals (repeat' (first | (refine K_region (id := 14) ?_; refine mv ?_; refine vl ?_; refine lB S rfl rfl ?_; refine vl ?_; refine lB S rfl rfl ?_; refine vl ?_; refine lB S rfl rfl ?_)))
            (refine KO_fn rfl rfl rfl rfl rfl ((tie_ok (S.front (.there .here)) t.a t.b t.k htl hTS).mono ?_); rintro _ h ⟨rfl, S⟩) <;> (refine mv ?_; refine KO_nil ?_)
            have he := he1 (by assumption) (.inr (ec.1 (by assumption)))
            refine ⟨_, ⟨S.pick, he3⟩, ?_⟩
            rw [he]
            exact (by repeat (first | exact Ks.le_nil _ | refine Ks.le_cons rfl ?_))
          · have he := he2 (fun z => z.2.elim (fun q => by omega) (fun q => absurd (ec.2 q) (by assumption)))
            refine ⟨⟨r.us, r.ts.take i⟩, ⟨S.pick, fun q => by rw [he] at q; cases q⟩, ?_⟩
            rw [he]
            exact (by repeat (first | exact Ks.le_nil _ | refine Ks.le_cons rfl ?_))
        · have he := he2 (fun z => absurd z.1 (by assumption))
          refine ⟨⟨r.us, r.ts.take i⟩, ⟨S.pick, fun q => by rw [he] at q; cases q⟩, ?_⟩
          rw [he]
          exact (by repeat (first | exact Ks.le_nil _ | refine Ks.le_cons rfl ?_))
      · clear S
        rintro r' h ⟨S, hr'⟩
        skip
        all_goals (repeat' (first | refine K_seq ?_ | refine k_cond rfl ?_ | refine K_skip ?_ | (refine K_region (id := 15) ?_; refine mv ?_; (first | (refine cS ?_ ?_ <;> intro hc)) <;> (refine KO_nil ?_)) | (refine K_draw (id := 16) ?_; refine vl ?_; refine lB S rfl rfl ?_; refine lnB S ?_; refine mv ?_; refine ad ?_; refine mv ?_; refine mv ?_; refine mv ?_; refine mv ?_; refine KO_nil ?_) | (refine K_region (id := 17) ?_; refine ad ?_; refine mv ?_; refine KO_nil ?_)))
        · refine K_ret ⟨_, rfl, ?_⟩
          exact .inr ⟨_, _, rfl, ⟨hc, .inr ⟨g2, i, by omega, k2, rfl, by rw [hgl]⟩⟩, S.drop⟩
        · have hz : tE0 r i = 0 := Classical.not_not.1 hc
          obtain rfl := hr' hz
          refine ⟨i + 1, ?_, ?_, (by repeat (first | exact Ks.le_nil _ | refine Ks.le_cons rfl ?_))⟩
          · show r.ts.length - (i + 1) < r.ts.length - i; omega
          · exact ⟨S, by omega, nxtD k2 hz⟩
    · refine K_ret ⟨_, rfl, ?_⟩
      obtain rfl : i = r.ts.length := by omega
      rw [List.take_length] at S
      exact .inl ⟨p, rfl, ⟨g2, k2⟩, S.pick⟩
end Go.Proofs.Xx

/-
  Right rolls, as a list of facts; names of numbers.
-/
namespace Go.Proofs.Xx
open Go Go.Proofs
set_option linter.unusedSimpArgs false
set_option linter.unusedVariables false
set_option linter.unusedSectionVars false
set_option maxRecDepth 100000

theorem gat_none {us : List Gu} {n : List UInt8} : gat us n = none ↔ ∀ g ∈ us, g.name ≠ n := by
  induction us with
  | nil => simp [gat]
  | cons x r ih =>
    simp only [gat]
    by_cases h : x.name = n
    · simp [h]
    · simp only [if_neg h, Option.map_eq_none_iff, ih, List.mem_cons]
      constructor
      · rintro q g (rfl | hg)
        · exact h
        · exact q g hg
      · exact fun q g hg => q g (.inr hg)
theorem gat_some {us : List Gu} {n : List UInt8} {i : Nat} (h : gat us n = some i) : i < us.length ∧ (us.getD i default).name = n ∧ ∀ j, j < i → (us.getD j default).name ≠ n := by
  induction us generalizing i with
  | nil => cases h
  | cons x r ih =>
    simp only [gat] at h
    by_cases hx : x.name = n
    · rw [if_pos hx] at h; cases h
      exact ⟨by simp, hx, fun j hj => absurd hj (Nat.not_lt_zero _)⟩
    · rw [if_neg hx] at h
      cases hr : gat r n with
      | none => rw [hr] at h; cases h
      | some k =>
        rw [hr] at h; cases h
        obtain ⟨h1, h2, h3⟩ := ih hr
        refine ⟨by simp; omega, h2, fun j hj => ?_⟩
        cases j with
        | zero => exact hx
        | succ j => exact h3 j (by simp only at hj; omega)
theorem gat_mem {us : List Gu} {n : List UInt8} : gat us n ≠ none ↔ ∃ g ∈ us, g.name = n := by
  rw [Ne, gat_none]
  constructor
  · intro h
    apply Classical.byContradiction
    intro q
    exact h fun g hg e => q ⟨g, hg, e⟩
  · rintro ⟨g, hg, e⟩ q
    exact q g hg e
theorem mem_getD {α : Type} [Inhabited α] {l : List α} {i : Nat} (h : i < l.length) : l.getD i default ∈ l := by
  rw [List.getD_eq_getElem?_getD, List.getElem?_eq_getElem h]; exact List.getElem_mem h
theorem mem_iff_getD {α : Type} [Inhabited α] {l : List α} {x : α} : x ∈ l ↔ ∃ i, i < l.length ∧ l.getD i default = x := by
  constructor
  · intro h
    obtain ⟨i, hi, rfl⟩ := List.mem_iff_getElem.1 h
    exact ⟨i, hi, by rw [List.getD_eq_getElem?_getD, List.getElem?_eq_getElem hi]; rfl⟩
  · rintro ⟨i, hi, rfl⟩
    exact mem_getD hi
/-- A right roll, as a list of facts. -/
structure RO (r : Rl) : Prop where
  chk : ∀ g ∈ r.us, chkG g = 0
  nd : ∀ i j, i < j → j < r.us.length → (r.us.getD i default).name ≠ (r.us.getD j default).name
  l64 : r.us.length ≤ 64
  ts : TS r.ts
  tt : ∀ t ∈ r.ts, sLt t.a t.b ∧ (t.k = 1 ∨ t.k = 2) ∧ gat r.us t.a ≠ none ∧ gat r.us t.b ≠ none
  l256 : r.ts.length ≤ 256
theorem RO.gat {r : Rl} (h : RO r) {i : Nat} (hi : i < r.us.length) : gat r.us (r.us.getD i default).name = some i := by
  cases hq : Xx.gat r.us (r.us.getD i default).name with
  | none => exact absurd rfl (gat_none.1 hq _ (mem_getD hi))
  | some j =>
    obtain ⟨h1, h2, h3⟩ := gat_some hq
    rcases Nat.lt_trichotomy i j with q | q | q
    · exact absurd rfl (h3 i q)
    · rw [q]
    · exact absurd h2 (h.nd j i q hi)
theorem gE0_iff {us : List Gu} {i : Nat} (hi : i < us.length) : gE0 us i = 0 ↔ chkG (us.getD i default) = 0 ∧ (∀ j, j < i → (us.getD j default).name ≠ (us.getD i default).name) ∧ i < 64 := by
  unfold gE0
  have hl : (us.take i).length = i := by simp; omega
  have hg : Xx.gat (us.take i) (us.getD i default).name = none ↔ ∀ j, j < i → (us.getD j default).name ≠ (us.getD i default).name := by
    rw [gat_none]
    constructor
    · intro h j hj
      have := h _ (mem_getD (show j < (us.take i).length by omega))
      rwa [getD_take hj] at this
    · intro h g hg
      obtain ⟨j, hj, rfl⟩ := mem_iff_getD.1 hg
      rw [getD_take (by omega)]
      exact h j (by omega)
  constructor
  · intro h
    obtain ⟨h1, h2, h3, -⟩ := addF_zero h
    exact ⟨h1, hg.1 h2, by simpa [hl] using h3⟩
  · rintro ⟨h1, h2, h3⟩
    rw [addF_0 h1 (hg.2 h2) (by show ¬ 64 ≤ (us.take i).length; omega)]
theorem tied_iff {ts : List Ti} {a b : List UInt8} (h : sLt a b) : tied ts a b ↔ ∃ t ∈ ts, t.a = a ∧ t.b = b := by unfold tied; rw [sMin_lt h, sMax_lt h]
theorem VRl_iff {r : Rl} : VRl r ↔ RO r := by
  constructor
  · rintro ⟨h1, h2⟩
    refine ⟨fun g hg => ?_, fun i j hij hj => ((gE0_iff hj).1 (h1 j hj)).2.1 i hij, gE0_len (Nat.le_refl _) h1, ?_, fun t ht => ?_, tE0_len (Nat.le_refl _) h2⟩
    · obtain ⟨i, hi, rfl⟩ := mem_iff_getD.1 hg
      exact ((gE0_iff hi).1 (h1 i hi)).1
    · have := (tE0_ts (Nat.le_refl _) h2).1
      rwa [List.take_length] at this
    · obtain ⟨i, hi, rfl⟩ := mem_iff_getD.1 ht
      obtain ⟨z1, z2, z3⟩ := tE0_zero (h2 i hi)
      obtain ⟨y1, y2, y3, y4, y5, y6, y7⟩ := tieF_zero z3
      exact ⟨z1, y1, y3, y4⟩
  · intro h
    refine ⟨fun i hi => (gE0_iff hi).2 ⟨h.chk _ (mem_getD hi), fun j hj => h.nd j i hj hi, by have := h.l64; omega⟩, fun i hi => ?_⟩
    obtain ⟨z1, z2, z3, z4⟩ := h.tt _ (mem_getD hi)
    have hb : ∀ j, j < i → bef (r.ts.getD j default) (r.ts.getD i default) := fun j hj => h.ts.lt hj hi
    have hz : i = 0 ∨ ¬ bef (r.ts.getD i default) (r.ts.getD (i - 1) default) := by
      rcases Nat.eq_zero_or_pos i with q | q
      · exact .inl q
      · exact .inr fun q2 => bef_irr _ (bef_trans (hb (i - 1) (by omega)) q2)
    unfold tE0
    rw [if_pos ⟨z1, hz⟩, tieF_0]
    · rintro (q | q)
      · omega
      · rw [q] at z1; exact sLt_irr _ z1
    · rintro (q | q)
      · exact z3 q
      · exact z4 q
    · rw [tied_iff z1]
      rintro ⟨t, ht, e1, e2⟩
      obtain ⟨j, hj, rfl⟩ := mem_iff_getD.1 ht
      have hl : (r.ts.take i).length = i := by simp; omega
      replace hj : j < i := by rw [← hl]; exact hj
      rw [getD_take (by omega)] at e1 e2
      rcases hb j (by omega) with q | q
      · rw [e1] at q; exact sLt_irr _ q
      · rw [e2] at q; exact sLt_irr _ q.2
    · have := h.l256; simp; omega
/-- The name of a number. -/
def num (j : Nat) : List UInt8 := [UInt8.ofNat (97 + j / 26 % 26), UInt8.ofNat (97 + j % 26)]
theorem u8lt {a b : Nat} (ha : a < 256) (hb : b < 256) : UInt8.ofNat a < UInt8.ofNat b ↔ a < b := by
  rw [UInt8.lt_iff_toNat_lt]
  simp [UInt8.toNat_ofNat, Nat.mod_eq_of_lt ha, Nat.mod_eq_of_lt hb]
theorem u8eq {a b : Nat} (ha : a < 256) (hb : b < 256) : UInt8.ofNat a = UInt8.ofNat b ↔ a = b := by
  constructor
  · intro h
    have := congrArg UInt8.toNat h
    simpa [UInt8.toNat_ofNat, Nat.mod_eq_of_lt ha, Nat.mod_eq_of_lt hb] using this
  · rintro rfl; rfl
theorem num_lt {i j : Nat} (hi : i < 676) (hj : j < 676) : sLt (num i) (num j) ↔ i < j := by
  unfold num
  rw [sLt_cons, sLt_cons, u8lt (by omega) (by omega), u8eq (by omega) (by omega), u8lt (by omega) (by omega)]
  constructor
  · rintro (h | ⟨h1, h2 | ⟨h2, h3⟩⟩)
    · omega
    · omega
    · exact absurd h3 (sLt_irr _)
  · intro h
    rcases Nat.lt_or_ge (i / 26) (j / 26) with q | q
    · exact .inl (by omega)
    · exact .inr ⟨by omega, .inl (by omega)⟩
theorem num_inj {i j : Nat} (hi : i < 676) (hj : j < 676) (h : num i = num j) : i = j := by
  rcases Nat.lt_trichotomy i j with q | q | q
  · have := (num_lt hi hj).2 q; rw [h] at this; exact absurd this (sLt_irr _)
  · exact q
  · have := (num_lt hj hi).2 q; rw [h] at this; exact absurd this (sLt_irr _)
theorem num_name (j : Nat) : nameP (num j) := by
  refine ⟨by simp [num], by simp [num], fun i hi => ?_⟩
  have h1 : j / 26 % 26 < 26 := Nat.mod_lt _ (by decide)
  have h2 : j % 26 < 26 := Nat.mod_lt _ (by decide)
  have hi : i < 2 := by simpa [num] using hi
  rcases (show i = 0 ∨ i = 1 by omega) with rfl | rfl
  · show lowB (UInt8.ofNat (97 + j / 26 % 26))
    unfold lowB; rw [UInt8.toNat_ofNat', Nat.mod_eq_of_lt (by omega)]; omega
  · show lowB (UInt8.ofNat (97 + j % 26))
    unfold lowB; rw [UInt8.toNat_ofNat', Nat.mod_eq_of_lt (by omega)]; omega
variable [Flag]
theorem number_ok {h0 : AH} (w : WfH h0) (j : Nat) (hj : j ≤ 1000000) : Fn Tryz.prog Xh 69 [.int .i64 j] h0 (fun v h' => v = str (num j) ∧ Hs h0 h' []) := by
  have S := Hs.start w
  refine Fn_K rfl Tryz.func69 rfl rfl ?_
  all_goals (repeat' (first | refine K_seq ?_ | refine k_cond rfl ?_ | refine K_skip ?_ | refine K_exit ?_ | refine k_block ?_ | refine K_scope ?_ | refine K_label ?_ | (refine K_region (id := 0) ?_; refine mv ?_; refine KO_nil ?_) | (refine K_region (id := 1) ?_; refine mv ?_; (first | refine qu ?_ | refine vl ?_); (first | refine rm ?_ | refine vl ?_); (first | refine ad ?_ | refine vl ?_); (first | refine cU ?_ | refine vl ?_); refine mv ?_; (first | refine rm ?_ | refine vl ?_); (first | refine ad ?_ | refine vl ?_); (first | refine cU ?_ | refine vl ?_))))
  refine bsn (α := Nat) (z := 1) eU [97 + j / 26 % 26, 97 + j % 26] S ?_; clear S; intro u h S
  refine bS (Rd.of_sl S .here) ?_
  (refine mv ?_; refine KO_nil ?_)
  all_goals (repeat' (first | refine K_seq ?_ | refine k_cond rfl ?_ | refine K_skip ?_ | refine K_exit ?_ | refine k_block ?_ | refine K_scope ?_ | refine K_label ?_))
  refine K_ret ⟨_, rfl, ?_⟩
  exact ⟨rfl, S.drop⟩
theorem number_okI {h0 : AH} (w : WfH h0) {z : Int} (j : Nat) (hz : z = j) (hj : j ≤ 1000000) : Fn Tryz.prog Xh 69 [.int .i64 z] h0 (fun v h' => v = str (num j) ∧ Hs h0 h' []) := by
  subst hz
  exact number_ok w j hj
theorem there_ok {h0 : AH} (w : WfH h0) (vg vt : SlV) (gs : List Gst) (hrg : RdL h0 vg.val 9 eG gs) (hl : gs.length ≤ 1000000) (j : Nat) (hj : j ≤ 1000000) :
    Fn Tryz.prog Xh 70 [.agg #[vg.val, vt.val], .int .i64 j] h0 (fun v h' => BoolIs v (∃ i, i < gs.length ∧ (gs.getD i default).name = num j) ∧ Hs h0 h' []) := by
  have S := Hs.start w
  refine Fn_K rfl Tryz.func70 rfl rfl ?_
  all_goals (repeat' (first | refine K_seq ?_ | refine k_cond rfl ?_ | refine K_skip ?_ | refine K_exit ?_ | refine k_block ?_ | refine K_scope ?_ | refine K_label ?_ | (refine K_region (id := 0) ?_; (refine bx S ?_; clear S; intro b h S); refine mv ?_; refine KO_nil ?_) | (refine K_region (id := 1) ?_; refine mv ?_; refine KO_nil ?_)))
  replace S : Hs h0 h [.blk b [vg.val, vt.val] 32] := S
  obtain ⟨q, hnm⟩ : ∃ x, x = b := ⟨_, rfl⟩; subst hnm
  refine k_loop (σ := Nat) (fun i h' => Hs h0 h' [.blk q [vg.val, vt.val] 32] ∧ i ≤ gs.length ∧ ∀ k, k < i → (gs.getD k default).name ≠ num j) (fun i => gs.length - i) (fun i => [(1, .int .i64 j), (2, .pointer (some ⟨q, 0, none⟩)), (5, .int .i64 i)]) 0 (by repeat (first | exact Ks.le_nil _ | refine Ks.le_cons rfl ?_ | refine Ks.le_int ?_)) ?_ ?_
  · exact ⟨S, Nat.zero_le _, fun j hj => absurd hj (Nat.not_lt_zero _)⟩
  clear S
  rintro i h ⟨S, g1, g2⟩
  all_goals (repeat' (first | refine K_seq ?_ | refine k_cond rfl ?_ | refine K_skip ?_ | refine K_exit ?_ | refine k_block ?_ | refine K_scope ?_ | refine K_label ?_ | (refine K_region (id := 2) ?_; refine mv ?_; (first | refine vl ?_ | refine fB S ?_ | refine fS S rfl rfl ?_ | refine fA ?_); (first | refine lB S rfl rfl ?_ | refine lES2 S rfl rfl ?_ | refine lEB S ?_ | refine lH S ?_); (first | refine lnB S ?_ | refine lnS S rfl rfl ?_); (first | refine cT ?_ | refine cF ?_ | (refine cS ?_ ?_ <;> intro hc)) <;> (refine KO_nil ?_)) | (refine K_region (id := 6) ?_; refine mv ?_; refine KO_nil ?_)))
  · (repeat (refine K_seq ?_)); refine K_drawX (id := 4) [(1, (0, 1)), (5, (0, 1))] [some (q), some (blkS vg.val)] ?_; refine KX_cons ?_; (first | (refine vl ?_ <;> refine KO_nil ⟨⟨by (first | exact True.intro | exact Or.inl rfl | exact Or.inr rfl | exact Or.inr (congrArg some (blkOf_elA _ _ _ _)) | exact ⟨Or.inl rfl, rfl⟩ | exact ⟨Or.inr rfl, rfl⟩), rfl⟩, ?_⟩) | (refine fB S ?_ <;> refine KO_nil ⟨⟨by (first | exact True.intro | exact Or.inl rfl | exact Or.inr rfl | exact Or.inr (congrArg some (blkOf_elA _ _ _ _)) | exact ⟨Or.inl rfl, rfl⟩ | exact ⟨Or.inr rfl, rfl⟩), rfl⟩, ?_⟩) | (refine fS S rfl rfl ?_ <;> refine KO_nil ⟨⟨by (first | exact True.intro | exact Or.inl rfl | exact Or.inr rfl | exact Or.inr (congrArg some (blkOf_elA _ _ _ _)) | exact ⟨Or.inl rfl, rfl⟩ | exact ⟨Or.inr rfl, rfl⟩), rfl⟩, ?_⟩) | (refine fA ?_ <;> refine KO_nil ⟨⟨by (first | exact True.intro | exact Or.inl rfl | exact Or.inr rfl | exact Or.inr (congrArg some (blkOf_elA _ _ _ _)) | exact ⟨Or.inl rfl, rfl⟩ | exact ⟨Or.inr rfl, rfl⟩), rfl⟩, ?_⟩)); refine KX_cons ?_; (first | (refine lB S rfl rfl ?_ <;> refine KO_nil ⟨⟨by (first | exact True.intro | exact Or.inl rfl | exact Or.inr rfl | exact Or.inr (congrArg some (blkOf_elA _ _ _ _)) | exact ⟨Or.inl rfl, rfl⟩ | exact ⟨Or.inr rfl, rfl⟩), rfl⟩, ?_⟩) | (refine lES2 S rfl rfl ?_ <;> refine KO_nil ⟨⟨by (first | exact True.intro | exact Or.inl rfl | exact Or.inr rfl | exact Or.inr (congrArg some (blkOf_elA _ _ _ _)) | exact ⟨Or.inl rfl, rfl⟩ | exact ⟨Or.inr rfl, rfl⟩), rfl⟩, ?_⟩) | (refine lEB S ?_ <;> refine KO_nil ⟨⟨by (first | exact True.intro | exact Or.inl rfl | exact Or.inr rfl | exact Or.inr (congrArg some (blkOf_elA _ _ _ _)) | exact ⟨Or.inl rfl, rfl⟩ | exact ⟨Or.inr rfl, rfl⟩), rfl⟩, ?_⟩) | (refine lH S ?_ <;> refine KO_nil ⟨⟨by (first | exact True.intro | exact Or.inl rfl | exact Or.inr rfl | exact Or.inr (congrArg some (blkOf_elA _ _ _ _)) | exact ⟨Or.inl rfl, rfl⟩ | exact ⟨Or.inr rfl, rfl⟩), rfl⟩, ?_⟩)); refine KX_cons ?_; (first | (refine mv ?_ <;> refine KO_nil ⟨⟨by (first | exact True.intro | exact Or.inl rfl | exact Or.inr rfl | exact Or.inr (congrArg some (blkOf_elA _ _ _ _)) | exact ⟨Or.inl rfl, rfl⟩ | exact ⟨Or.inr rfl, rfl⟩), rfl⟩, ?_⟩)); refine KX_cons ?_; (first | (refine ixB S ?_ <;> refine KO_nil ⟨⟨by (first | exact True.intro | exact Or.inl rfl | exact Or.inr rfl | exact Or.inr (congrArg some (blkOf_elA _ _ _ _)) | exact ⟨Or.inl rfl, rfl⟩ | exact ⟨Or.inr rfl, rfl⟩), rfl⟩, ?_⟩) | (refine ixS2 S rfl rfl ?_ <;> refine KO_nil ⟨⟨by (first | exact True.intro | exact Or.inl rfl | exact Or.inr rfl | exact Or.inr (congrArg some (blkOf_elA _ _ _ _)) | exact ⟨Or.inl rfl, rfl⟩ | exact ⟨Or.inr rfl, rfl⟩), rfl⟩, ?_⟩)); refine KX_cons ?_; (first | (refine vl ?_ <;> refine KO_nil ⟨⟨by (first | exact True.intro | exact Or.inl rfl | exact Or.inr rfl | exact Or.inr (congrArg some (blkOf_elA _ _ _ _)) | exact ⟨Or.inl rfl, rfl⟩ | exact ⟨Or.inr rfl, rfl⟩), rfl⟩, ?_⟩) | (refine fB S ?_ <;> refine KO_nil ⟨⟨by (first | exact True.intro | exact Or.inl rfl | exact Or.inr rfl | exact Or.inr (congrArg some (blkOf_elA _ _ _ _)) | exact ⟨Or.inl rfl, rfl⟩ | exact ⟨Or.inr rfl, rfl⟩), rfl⟩, ?_⟩) | (refine fS S rfl rfl ?_ <;> refine KO_nil ⟨⟨by (first | exact True.intro | exact Or.inl rfl | exact Or.inr rfl | exact Or.inr (congrArg some (blkOf_elA _ _ _ _)) | exact ⟨Or.inl rfl, rfl⟩ | exact ⟨Or.inr rfl, rfl⟩), rfl⟩, ?_⟩) | (refine fA ?_ <;> refine KO_nil ⟨⟨by (first | exact True.intro | exact Or.inl rfl | exact Or.inr rfl | exact Or.inr (congrArg some (blkOf_elA _ _ _ _)) | exact ⟨Or.inl rfl, rfl⟩ | exact ⟨Or.inr rfl, rfl⟩), rfl⟩, ?_⟩)); refine KX_cons ?_; (first | (refine lB S rfl rfl ?_ <;> refine KO_nil ⟨⟨by (first | exact True.intro | exact Or.inl rfl | exact Or.inr rfl | exact Or.inr (congrArg some (blkOf_elA _ _ _ _)) | exact ⟨Or.inl rfl, rfl⟩ | exact ⟨Or.inr rfl, rfl⟩), rfl⟩, ?_⟩) | (refine lES2 S rfl rfl ?_ <;> refine KO_nil ⟨⟨by (first | exact True.intro | exact Or.inl rfl | exact Or.inr rfl | exact Or.inr (congrArg some (blkOf_elA _ _ _ _)) | exact ⟨Or.inl rfl, rfl⟩ | exact ⟨Or.inr rfl, rfl⟩), rfl⟩, ?_⟩) | (refine lEB S ?_ <;> refine KO_nil ⟨⟨by (first | exact True.intro | exact Or.inl rfl | exact Or.inr rfl | exact Or.inr (congrArg some (blkOf_elA _ _ _ _)) | exact ⟨Or.inl rfl, rfl⟩ | exact ⟨Or.inr rfl, rfl⟩), rfl⟩, ?_⟩) | (refine lH S ?_ <;> refine KO_nil ⟨⟨by (first | exact True.intro | exact Or.inl rfl | exact Or.inr rfl | exact Or.inr (congrArg some (blkOf_elA _ _ _ _)) | exact ⟨Or.inl rfl, rfl⟩ | exact ⟨Or.inr rfl, rfl⟩), rfl⟩, ?_⟩)); refine KX_cons ?_; (first | (refine mv ?_ <;> refine KO_nil ⟨⟨by (first | exact True.intro | exact Or.inl rfl | exact Or.inr rfl | exact Or.inr (congrArg some (blkOf_elA _ _ _ _)) | exact ⟨Or.inl rfl, rfl⟩ | exact ⟨Or.inr rfl, rfl⟩), rfl⟩, ?_⟩))
    ((refine KX_cons ?_; first | refine KO_fn rfl rfl rfl rfl rfl ((number_ok S.wf j hj).mono ?_)); rintro _ h ⟨rfl, x⟩) <;> ((refine KO_nil ⟨⟨True.intro, ?_⟩, ?_⟩; (focus ((show keepsX _ _ _ _ _; simp only [keepsX]; (repeat' (first | exact True.intro | refine And.intro ?_ ?_)); all_goals (intro hw; first | exact True.intro | exact rfl | exact x.ext.old _ S.bB | exact x.ext.old _ (S.bR (by first | omega | grind)) | exact x.ext.old _ (S.bX (by assumption) (by assumption) (by first | omega | grind)) | exact x.ext.old _ (S.bY (by assumption) (by assumption)) | (refine x.ext.old _ ?_; assumption) | exact absurd hw (by decide +kernel)))))); replace S := S.join0 x; clear x; refine KX_cons ?_; (first | ((refine tS ?_ ?_ <;> intro hc) <;> refine KO_nil ⟨⟨by (first | exact True.intro | exact Or.inl rfl | exact Or.inr rfl | exact Or.inr (congrArg some (blkOf_elA _ _ _ _)) | exact ⟨Or.inl rfl, rfl⟩ | exact ⟨Or.inr rfl, rfl⟩), rfl⟩, ?_⟩)) <;> (refine KX_nil ?_))
    · all_goals (repeat' (first | refine K_seq ?_ | refine k_cond rfl ?_ | refine K_skip ?_ | refine K_exit ?_ | refine k_block ?_ | refine K_scope ?_ | refine K_label ?_ | (refine K_region (id := 2) ?_; refine mv ?_; (first | refine vl ?_ | refine fB S ?_ | refine fS S rfl rfl ?_ | refine fA ?_); (first | refine lB S rfl rfl ?_ | refine lES2 S rfl rfl ?_ | refine lEB S ?_ | refine lH S ?_); (first | refine lnB S ?_ | refine lnS S rfl rfl ?_); (first | refine cT ?_ | refine cF ?_ | (refine cS ?_ ?_ <;> intro hc)) <;> (refine KO_nil ?_)) | (refine K_region (id := 3) ?_; refine mv ?_; (first | refine ad ?_ | refine vl ?_); refine mv ?_; refine KO_nil ?_) | (refine K_region (id := 5) ?_; refine mv ?_; refine KO_nil ?_) | (refine K_region (id := 6) ?_; refine mv ?_; refine KO_nil ?_)))
      refine K_ret ⟨_, rfl, ?_⟩
      exact ⟨.inl ⟨rfl, i, by omega, by simpa using hc⟩, S.drop⟩
    · all_goals (repeat' (first | refine K_seq ?_ | refine k_cond rfl ?_ | refine K_skip ?_ | refine K_exit ?_ | refine k_block ?_ | refine K_scope ?_ | refine K_label ?_ | (refine K_region (id := 2) ?_; refine mv ?_; (first | refine vl ?_ | refine fB S ?_ | refine fS S rfl rfl ?_ | refine fA ?_); (first | refine lB S rfl rfl ?_ | refine lES2 S rfl rfl ?_ | refine lEB S ?_ | refine lH S ?_); (first | refine lnB S ?_ | refine lnS S rfl rfl ?_); (first | refine cT ?_ | refine cF ?_ | (refine cS ?_ ?_ <;> intro hc)) <;> (refine KO_nil ?_)) | (refine K_region (id := 3) ?_; refine mv ?_; (first | refine ad ?_ | refine vl ?_); refine mv ?_; refine KO_nil ?_) | (refine K_region (id := 5) ?_; refine mv ?_; refine KO_nil ?_) | (refine K_region (id := 6) ?_; refine mv ?_; refine KO_nil ?_)))
      refine ⟨i + 1, ?_, ?_, (by repeat (first | exact Ks.le_nil _ | refine Ks.le_cons rfl ?_ | refine Ks.le_int ?_))⟩
      · show gs.length - (i + 1) < gs.length - i; omega
      · exact ⟨S, by omega, nxtD g2 (by simpa using hc)⟩
  · refine K_ret ⟨_, rfl, ?_⟩
    exact ⟨.inr ⟨rfl, fun ⟨k, h1, h2⟩ => g2 k (by omega) h2⟩, S.drop⟩
end Go.Proofs.Xx

/-
  Rolls of numbers.
-/
namespace Go.Proofs.Xx
open Go Go.Proofs
set_option linter.unusedSimpArgs false
set_option linter.unusedVariables false
set_option linter.unusedSectionVars false
set_option maxRecDepth 100000
set_option maxHeartbeats 4000000

/-- Numbers of 16 bits. -/
def e16 (x : Nat) : List Value := [.int .u16 x]
/-- A guest of numbers, but for its tongues. -/
def MdG (g : Gu) (i : Nat) : Prop := g.name = num (25 * i) ∧ someP g.rank ∧ someP g.court ∧ someP g.diet ∧ (0 ≤ g.since ∧ g.since ≤ 9999) ∧ (0 ≤ g.side ∧ g.side ≤ 2)
/-- Its tongues, behind k of them. -/
def MdT (l : List (List UInt8)) (k : Nat) : Prop := l.length ≤ k ∧ (∀ j, j < l.length → ∃ m, m < k ∧ l.getD j default = num m) ∧ ∀ j, j + 1 < l.length → sLt (l.getD j default) (l.getD (j + 1) default)
theorem MdT.next {l : List (List UInt8)} {k : Nat} (h : MdT l k) : MdT l (k + 1) := ⟨by have := h.1; omega, fun j hj => by obtain ⟨m, h1, h2⟩ := h.2.1 j hj; exact ⟨m, by omega, h2⟩, h.2.2⟩
theorem MdT.app {l : List (List UInt8)} {k : Nat} (h : MdT l k) (hk : k < 4) : MdT (l ++ [num k]) (k + 1) := by
  refine ⟨by simp; exact h.1, fun j hj => ?_, fun j hj => ?_⟩
  · simp at hj
    rcases Nat.lt_or_ge j l.length with q | q
    · rw [gA1 q]; exact h.next.2.1 j q
    · obtain rfl : j = l.length := by omega
      rw [gA2 (Nat.le_refl _), Nat.sub_self]; exact ⟨k, by omega, rfl⟩
  · simp at hj
    rw [gA1 (show j < l.length by omega)]
    rcases Nat.lt_or_ge (j + 1) l.length with q | q
    · rw [gA1 q]; exact h.2.2 j q
    · rw [gA2 q, show j + 1 - l.length = 0 by omega]
      obtain ⟨m, h1, h2⟩ := h.2.1 j (by omega)
      rw [h2]; exact (num_lt (by omega) (by omega)).2 h1
theorem Md_chk {g : Gu} {i : Nat} (h : MdG g i) (h2 : MdT g.tg 4) : chkG g = 0 := by
  obtain ⟨a1, a2, a3, a4, a5, a6⟩ := h
  refine chkG_0 ⟨by rw [a1]; exact num_name _, a2, a3, a4⟩ a5 a6 ⟨h2.1, fun j hj => ⟨?_, fun q => ?_⟩⟩
  · obtain ⟨m, -, e⟩ := h2.2.1 j hj
    rw [e]; exact num_name _
  · have := h2.2.2 (j - 1) (by omega)
    rwa [show j - 1 + 1 = j by omega] at this
abbrev MdR (q q4 : Nat) (gs : List Gst) (vg : SlV) : List Rs := [tgR gs, .sl vg.val 24 9 eG gs, .blk q [vg.val, .slice none 0 0] 32, .blk q4 [.slice none 0 0, .slice none 0 0] 32]
abbrev MdI (h0 : AH) (q q4 : Nat) (la : List Nat) (gs : List Gst) (vg : SlV) (h : AH) : Prop := Hs h0 h (MdR q q4 gs vg) ∧ gs.length ≤ 12 ∧ gs.length ≤ la.length ∧ ∀ i, i < gs.length → MdG (gs.getD i default).toGu i ∧ MdT (gs.getD i default).tg 4
abbrev MdJ (h0 : AH) (q q4 : Nat) (gs : List Gst) (vg : SlV) (k : Nat) (b : Nat) (g : Gst) (h : AH) : Prop := Hs h0 h (.blk b (eG g) 24 :: .sl g.tv.val 9 1 eS g.tg :: MdR q q4 gs vg) ∧ MdG g.toGu gs.length ∧ MdT g.tg k
/-- The ties so far. -/
def TI (us : List Gu) (ts : List Ti) (i k : Nat) : Prop := TS ts ∧ (∀ t ∈ ts, sLt t.a t.b ∧ (t.k = 1 ∨ t.k = 2) ∧ gat us t.a ≠ none ∧ gat us t.b ≠ none) ∧ (∀ t ∈ ts, sLt t.a (num i) ∨ (t.a = num i ∧ sLt t.b (num k))) ∧ ts.length ≤ 13 * ((i + 24) / 25) + (if i % 25 = 0 then (k + 24) / 25 else 0)
def TIo (us : List Gu) (ts : List Ti) (i : Nat) : Prop := TS ts ∧ (∀ t ∈ ts, sLt t.a t.b ∧ (t.k = 1 ∨ t.k = 2) ∧ gat us t.a ≠ none ∧ gat us t.b ≠ none) ∧ (∀ t ∈ ts, sLt t.a (num i)) ∧ ts.length ≤ 13 * ((i + 24) / 25)
theorem TIo.inn {us : List Gu} {ts : List Ti} {i : Nat} (h : TIo us ts i) (k : Nat) : TI us ts i k := ⟨h.1, h.2.1, fun t ht => .inl (h.2.2.1 t ht), Nat.le_trans h.2.2.2 (Nat.le_add_right _ _)⟩
theorem TI.out {us : List Gu} {ts : List Ti} {i k : Nat} (h : TI us ts i k) (hi : i < 312) (hk : k ≤ 312) : TIo us ts (i + 1) := by
  refine ⟨h.1, h.2.1, fun t ht => ?_, ?_⟩
  · have := (num_lt (i := i) (j := i + 1) (by omega) (by omega)).2 (by omega)
    rcases h.2.2.1 t ht with q | q
    · exact sLt_trans q this
    · rw [q.1]; exact this
  · have := h.2.2.2
    split at this <;> omega
theorem TI.next {us : List Gu} {ts : List Ti} {i k : Nat} (h : TI us ts i k) (hk : k < 312) : TI us ts i (k + 1) := by
  refine ⟨h.1, h.2.1, fun t ht => ?_, ?_⟩
  · rcases h.2.2.1 t ht with q | q
    · exact .inl q
    · exact .inr ⟨q.1, sLt_trans q.2 ((num_lt (by omega) (by omega)).2 (by omega))⟩
  · have := h.2.2.2
    split at this <;> split <;> omega
theorem TI.app {us : List Gu} {ts : List Ti} {i k : Nat} {z : Int} (h : TI us ts i k) (hik : i < k) (hk : k < 312) (hz : z = 1 ∨ z = 2) (hi2 : i % 25 = 0) (hk2 : k % 25 = 0) (g1 : gat us (num i) ≠ none) (g2 : gat us (num k) ≠ none) : TI us (ts ++ [⟨num i, num k, z⟩]) i (k + 1) := by
  refine ⟨h.1.app fun j hj => ?_, fun t ht => ?_, fun t ht => ?_, ?_⟩
  · exact h.2.2.1 _ (mem_getD hj)
  · rcases List.mem_append.1 ht with q | q
    · exact h.2.1 t q
    · obtain rfl := List.mem_singleton.1 q
      exact ⟨(num_lt (by omega) (by omega)).2 hik, hz, g1, g2⟩
  · rcases List.mem_append.1 ht with q | q
    · exact (h.next hk).2.2.1 t q
    · obtain rfl := List.mem_singleton.1 q
      exact .inr ⟨rfl, (num_lt (by omega) (by omega)).2 (by omega)⟩
  · have := h.2.2.2
    rw [if_pos hi2] at this ⊢
    simp; omega
abbrev MdQ (q q4 : Nat) (gs : List Gst) (vg : SlV) (ts : List Ti) (vt : SlV) : List Rs := [.sl vg.val 24 9 eG gs, .blk q4 [.slice none 0 0, .slice none 0 0] 32, tgR gs, .blk q [vg.val, vt.val] 32, .sl vt.val 111 3 eTi ts]
variable [Flag]
theorem made_ok {h0 : AH} (w : WfH h0) (va vb : Value) (la lb : List Nat) (ra : RdL h0 va 1 e16 la) (rb : RdL h0 vb 1 eU lb) (hla : la.length ≤ 9223372036854775807) (hlb : lb.length ≤ 9223372036854775807) (h16 : ∀ i, i < la.length → la.getD i default < 65536) (h8 : ∀ i, i < lb.length → lb.getD i default < 256) :
    Fn Tryz.prog Xh 23 [va, vb] h0 (fun v h' => ∃ rv r, v = rv.val ∧ RlOk h' rv r ∧ RO r ∧ (r.us.length ≤ 12 ∧ ∀ i, i < r.us.length → (r.us.getD i default).name = num (25 * i)) ∧ Hs h0 h' []) := by
  have S := Hs.start w
  refine Fn_K rfl Tryz.func23 rfl rfl ?_
  all_goals (repeat' (first | refine K_seq ?_ | (refine K_region (id := 0) ?_; (refine al S ?_; clear S; intro b h S); refine KO_nil ?_) | (refine K_region (id := 1) ?_; (refine al S ?_; clear S; intro b h S); refine KO_nil ?_) | (refine K_region (id := 2) ?_; refine mv ?_; refine KO_nil ?_)))
  have S := (S.nilS (e := 24) (z := 9) (enc := eG)).anyS (p := TgsOk []) fun h' g hg => by cases hg
  obtain ⟨q, hnm⟩ : ∃ x, x = b := ⟨_, rfl⟩; subst hnm
  obtain ⟨q4, hnm⟩ : ∃ x, x = b := ⟨_, rfl⟩; subst hnm
  replace S : Hs h0 h [tgR [], .sl (SlV.val ⟨none, 0, 0⟩) 24 9 eG [], .blk q [SlV.val ⟨none, 0, 0⟩, .slice none 0 0] 32, .blk q4 [.slice none 0 0, .slice none 0 0] 32] := S
  (repeat (refine K_seq ?_)); first | refine K_join1 (σ := List Gst × SlV) (fun (gs, vg) h' => MdI h0 q q4 la gs vg h') (fun (gs, vg) => [(0, va), (1, vb), (4, .pointer (some ⟨q4, 0, none⟩)), (5, .pointer (some ⟨q, 0, none⟩))]) ?_ ?_
  · all_goals (repeat' (refine k_block ?_))
    refine k_loop (σ := List Gst × SlV) (fun (gs, vg) h' => MdI h0 q q4 la gs vg h') (fun (gs, vg) => 12 - gs.length) (fun (gs, vg) => [(0, va), (1, vb), (4, .pointer (some ⟨q4, 0, none⟩)), (5, .pointer (some ⟨q, 0, none⟩)), (6, .int .i64 gs.length)]) ([], ⟨none, 0, 0⟩) (by repeat (first | exact Ks.le_nil _ | refine Ks.le_cons rfl ?_)) ?_ ?_
    · exact ⟨S, Nat.zero_le _, Nat.zero_le _, fun j hj => absurd hj (Nat.not_lt_zero _)⟩
    clear S
    rintro ⟨gs, vg⟩ h ⟨S, g1, g2, g3⟩
    all_goals (repeat' (first | refine K_seq ?_ | refine k_cond rfl ?_ | refine K_skip ?_ | refine K_exit ?_ | refine k_block ?_ | (refine K_region (id := 3) ?_; refine mv ?_; refine mv ?_; refine lnB S ?_; (first | (refine cS ?_ ?_ <;> intro hc)) <;> (refine mv ?_; (first | refine off ?_ | refine mv ?_); (first | refine off ?_ | (first | (refine cS ?_ ?_ <;> intro hc))) <;> (refine vl ?_; refine KO_nil ?_))) | (refine K_region (id := 5) ?_; refine mv ?_; refine mv ?_; refine ixB S ?_; refine lEB S ?_; refine cI ?_; refine mv ?_; refine KO_nil ?_)))
    · obtain ⟨x, hx, hx2⟩ : ∃ x, la.getD gs.length default = x ∧ x < 65536 := ⟨_, rfl, h16 _ (by omega)⟩
      simp only [Int.toNat_natCast, hx]
      have r1 : 0 ≤ (x : Int) % 4 * 500 ∧ (x : Int) % 4 * 500 ≤ 9999 := by omega
      have r2 : 0 ≤ (x : Int) % 3 ∧ (x : Int) % 3 ≤ 2 := by omega
      have r3 : 25 * (gs.length : Int) % 312 + (gs.length : Int) / 12 = ((25 * gs.length : Nat) : Int) := by
        rw [Int.emod_eq_of_lt (by omega) (by omega), Int.ediv_eq_zero_of_lt (by omega) (by omega)]; omega
      (repeat (refine K_seq ?_)); first | refine K_join1 (σ := Nat × Gst) (fun (b, g) h' => MdJ h0 q q4 gs vg 0 b g h') (fun (b, g) => [(0, va), (1, vb), (4, .pointer (some ⟨q4, 0, none⟩)), (5, .pointer (some ⟨q, 0, none⟩)), (6, .int .i64 gs.length), (7, .int .i64 x), (8, .pointer (some ⟨b, 0, none⟩))]) ?_ ?_
      · all_goals (repeat' (first | (refine K_region (id := 6) ?_; refine mv ?_; refine ml ?_; refine rm ?_; refine mv ?_; refine qu ?_; refine ad ?_)))
        (refine KO_fn rfl rfl rfl rfl rfl ((number_okI S.wf (25 * gs.length) r3 (by omega)).mono ?_); rintro _ h ⟨rfl, y⟩) <;> (replace S := S.join0 y; clear y; refine mv ?_; refine rm ?_; refine ml ?_; refine mv ?_; refine rm ?_; refine mv ?_; refine rm ?_; (first | (refine cS ?_ ?_ <;> intro hc)) <;> (refine mv ?_; refine rm ?_; (first | (refine cS ?_ ?_ <;> intro hc)) <;> (refine vl ?_; (refine al S ?_; clear S; intro b h S); (first | (refine sB S rfl rfl ?_; clear S; intro h S)); refine KO_nil ?_)))
        all_goals
          have mk : ∀ hb ha : Bool, Hs h0 h (.blk b (eG ⟨⟨num (25 * gs.length), [], [], (x : Int) % 4 * 500, (x : Int) % 3, [], hb, ha, []⟩, ⟨none, 0, 0⟩⟩) 24 :: MdR q q4 gs vg) → MdJ h0 q q4 gs vg 0 b ⟨⟨num (25 * gs.length), [], [], (x : Int) % 4 * 500, (x : Int) % 3, [], hb, ha, []⟩, ⟨none, 0, 0⟩⟩ h := fun hb ha S => ⟨(S.nilS (e := 9) (z := 1) (enc := eS)).pick, ⟨rfl, .inl rfl, .inl rfl, .inl rfl, r1, r2⟩, Nat.zero_le _, fun j hj => absurd hj (Nat.not_lt_zero _), fun j hj => absurd hj (Nat.not_lt_zero _)⟩
        all_goals first
          | exact ⟨(b, _), mk true true S, ((by repeat (first | exact Ks.le_nil _ | refine Ks.le_cons rfl ?_)))⟩
          | exact ⟨(b, _), mk true false S, ((by repeat (first | exact Ks.le_nil _ | refine Ks.le_cons rfl ?_)))⟩
          | exact ⟨(b, _), mk false true S, ((by repeat (first | exact Ks.le_nil _ | refine Ks.le_cons rfl ?_)))⟩
          | exact ⟨(b, _), mk false false S, ((by repeat (first | exact Ks.le_nil _ | refine Ks.le_cons rfl ?_)))⟩
      · clear S
        rintro ⟨b, g⟩ h ⟨S, gd, gt⟩
        skip
        (repeat (refine K_seq ?_)); first | refine K_join (σ := Nat × Gst) (fun (b, g) h' => MdJ h0 q q4 gs vg 0 b g h') (fun (b, g) => [(0, va), (1, vb), (4, .pointer (some ⟨q4, 0, none⟩)), (5, .pointer (some ⟨q, 0, none⟩)), (6, .int .i64 gs.length), (7, .int .i64 x), (8, .pointer (some ⟨b, 0, none⟩))]) ?_ ?_
        · all_goals (repeat' (first | refine k_cond rfl ?_ | refine K_skip ?_ | (refine K_region (id := 7) ?_; refine mv ?_; refine rm ?_; (first | (refine cS ?_ ?_ <;> intro hc)) <;> (refine KO_nil ?_)) | (refine K_region (id := 8) ?_; refine mv ?_; refine rm ?_)))
          · (refine KO_fn rfl rfl rfl rfl rfl ((number_okI S.wf (x % 3) (by omega) (by omega)).mono ?_); rintro _ h ⟨rfl, y⟩) <;> (replace S := S.join0 y; clear y; refine vl ?_; (first | (refine sB S rfl rfl ?_; clear S; intro h S)); refine KO_nil ?_)
            exact ⟨(b, { g with rank := num (x % 3) }), ⟨S, ⟨gd.1, .inr (num_name _), gd.2.2.1, gd.2.2.2.1, gd.2.2.2.2⟩, gt⟩, ((by repeat (first | exact Ks.le_nil _ | refine Ks.le_cons rfl ?_)))⟩
          · exact ⟨(b, g), ⟨S, gd, gt⟩, ((by repeat (first | exact Ks.le_nil _ | refine Ks.le_cons rfl ?_)))⟩
        clear S
        rintro ⟨b, g⟩ h ⟨S, gd, gt⟩
        skip
        (repeat (refine K_seq ?_)); first | refine K_join (σ := Nat × Gst) (fun (b, g) h' => MdJ h0 q q4 gs vg 0 b g h') (fun (b, g) => [(0, va), (1, vb), (4, .pointer (some ⟨q4, 0, none⟩)), (5, .pointer (some ⟨q, 0, none⟩)), (6, .int .i64 gs.length), (7, .int .i64 x), (8, .pointer (some ⟨b, 0, none⟩))]) ?_ ?_
        · all_goals (repeat' (first | refine k_cond rfl ?_ | refine K_skip ?_ | (refine K_region (id := 9) ?_; refine mv ?_; refine rm ?_; (first | (refine cS ?_ ?_ <;> intro hc)) <;> (refine KO_nil ?_)) | (refine K_region (id := 10) ?_; refine mv ?_; refine rm ?_)))
          · (refine KO_fn rfl rfl rfl rfl rfl ((number_okI S.wf (x % 8) (by omega) (by omega)).mono ?_); rintro _ h ⟨rfl, y⟩) <;> (replace S := S.join0 y; clear y; refine vl ?_; (first | (refine sB S rfl rfl ?_; clear S; intro h S)); refine KO_nil ?_)
            exact ⟨(b, { g with court := num (x % 8) }), ⟨S, ⟨gd.1, gd.2.1, .inr (num_name _), gd.2.2.2.1, gd.2.2.2.2⟩, gt⟩, ((by repeat (first | exact Ks.le_nil _ | refine Ks.le_cons rfl ?_)))⟩
          · exact ⟨(b, g), ⟨S, gd, gt⟩, ((by repeat (first | exact Ks.le_nil _ | refine Ks.le_cons rfl ?_)))⟩
        clear S
        rintro ⟨b, g⟩ h ⟨S, gd, gt⟩
        skip
        (repeat (refine K_seq ?_)); first | refine K_join (σ := Nat × Gst) (fun (b, g) h' => MdJ h0 q q4 gs vg 0 b g h') (fun (b, g) => [(0, va), (1, vb), (4, .pointer (some ⟨q4, 0, none⟩)), (5, .pointer (some ⟨q, 0, none⟩)), (6, .int .i64 gs.length), (7, .int .i64 x), (8, .pointer (some ⟨b, 0, none⟩))]) ?_ ?_
        · all_goals (repeat' (first | refine k_cond rfl ?_ | refine K_skip ?_ | (refine K_region (id := 11) ?_; refine mv ?_; refine rm ?_; (first | (refine cS ?_ ?_ <;> intro hc)) <;> (refine KO_nil ?_)) | (refine K_region (id := 12) ?_; refine mv ?_; refine rm ?_)))
          · (refine KO_fn rfl rfl rfl rfl rfl ((number_okI S.wf (x % 5) (by omega) (by omega)).mono ?_); rintro _ h ⟨rfl, y⟩) <;> (replace S := S.join0 y; clear y; refine vl ?_; (first | (refine sB S rfl rfl ?_; clear S; intro h S)); refine KO_nil ?_)
            exact ⟨(b, { g with diet := num (x % 5) }), ⟨S, ⟨gd.1, gd.2.1, gd.2.2.1, .inr (num_name _), gd.2.2.2.2⟩, gt⟩, ((by repeat (first | exact Ks.le_nil _ | refine Ks.le_cons rfl ?_)))⟩
          · exact ⟨(b, g), ⟨S, gd, gt⟩, ((by repeat (first | exact Ks.le_nil _ | refine Ks.le_cons rfl ?_)))⟩
        clear S
        rintro ⟨b, g⟩ h ⟨S, gd, gt⟩
        all_goals (repeat' (first | refine K_seq ?_ | (refine K_region (id := 13) ?_; refine mv ?_; refine KO_nil ?_)))
        (repeat (refine K_seq ?_)); first | refine K_join1 (σ := Nat × Gst) (fun (b, g) h' => MdJ h0 q q4 gs vg 4 b g h') (fun (b, g) => [(0, va), (1, vb), (4, .pointer (some ⟨q4, 0, none⟩)), (5, .pointer (some ⟨q, 0, none⟩)), (6, .int .i64 gs.length), (7, .int .i64 x), (8, .pointer (some ⟨b, 0, none⟩))]) ?_ ?_
        · all_goals (repeat' (refine k_block ?_))
          refine k_loop (σ := Nat × Nat × Gst) (fun (k, b, g) h' => MdJ h0 q q4 gs vg k b g h' ∧ k ≤ 4) (fun (k, b, g) => 4 - k) (fun (k, b, g) => [(0, va), (1, vb), (4, .pointer (some ⟨q4, 0, none⟩)), (5, .pointer (some ⟨q, 0, none⟩)), (6, .int .i64 gs.length), (7, .int .i64 x), (8, .pointer (some ⟨b, 0, none⟩)), (9, .int .i64 k)]) (0, b, g) (by repeat (first | exact Ks.le_nil _ | refine Ks.le_cons rfl ?_)) ?_ ?_
          · exact ⟨⟨S, gd, gt⟩, by omega⟩
          clear S gd gt
          rintro ⟨k, b, g⟩ h ⟨⟨S, gd, gt⟩, hk⟩
          all_goals (repeat' (first | refine K_seq ?_ | refine k_cond rfl ?_ | refine K_skip ?_ | refine K_exit ?_ | (refine K_region (id := 14) ?_; refine mv ?_; (first | (refine cS ?_ ?_ <;> intro hc)) <;> (refine KO_nil ?_))))
          · (repeat (refine K_seq ?_)); first | refine K_join1 (σ := Nat × Gst) (fun (b, g) h' => MdJ h0 q q4 gs vg (k + 1) b g h') (fun (b, g) => [(0, va), (1, vb), (4, .pointer (some ⟨q4, 0, none⟩)), (5, .pointer (some ⟨q, 0, none⟩)), (6, .int .i64 gs.length), (7, .int .i64 x), (8, .pointer (some ⟨b, 0, none⟩)), (9, .int .i64 k)]) ?_ ?_
            · all_goals (repeat' (first | refine K_seq ?_ | refine k_block ?_))
              refine K_region (id := 16) ?_; refine mv ?_; refine mv ?_; refine ml ?_; refine ad ?_; refine sR ?_ (hb := by simp; omega)
              obtain ⟨y, hy, hy2⟩ : ∃ y : Int, (x : Int) / ((2 ^ (min (6 + 2 * (k : Int)).toNat IntKind.i64.bits) : Nat) : Int) = y ∧ 0 ≤ y ∧ y ≤ 65536 := ⟨_, rfl, Int.ediv_nonneg (by omega) (by exact_mod_cast Nat.zero_le _), Int.le_trans (Int.ediv_le_self _ (by omega)) (by omega)⟩
              simp only [hy]
              ((refine rm ?_); (first | (refine cS ?_ ?_ <;> intro hc)) <;> (refine KO_nil ?_))
              · all_goals (repeat' (first | refine K_seq ?_ | refine k_cond rfl ?_ | (refine K_region (id := 17) ?_; refine vl ?_; refine lB S rfl rfl ?_; refine mv ?_; refine KO_nil ?_) | (refine K_region (id := 18) ?_; refine mv ?_; refine mv ?_)))
                (refine KO_fn rfl rfl rfl rfl rfl ((number_ok S.wf k (by omega)).mono ?_); rintro _ h ⟨rfl, y⟩) <;> (replace S := S.join0 y; clear y; (refine one 1 S ?_; clear S; intro u h S))
                have hgt := gt.1
                refine app (y0 := num k) S rfl rfl ?_; clear S; intro v h S; obtain ⟨tv, rfl⟩ := S.sV v; ((refine vl ?_); (first | (refine sB S rfl rfl ?_; clear S; intro h S)); refine KO_nil ?_)
                all_goals (repeat' (fail))
                exact ⟨(b, ⟨{ g.toGu with tg := g.tg ++ [num k] }, tv⟩), ⟨S.front (.there .here), gd, gt.app (by omega)⟩, ((by repeat (first | exact Ks.le_nil _ | refine Ks.le_cons rfl ?_)))⟩
              · all_goals (repeat' (first | refine k_cond rfl ?_ | refine K_skip ?_))
                exact ⟨(b, g), ⟨S, gd, gt.next⟩, ((by repeat (first | exact Ks.le_nil _ | refine Ks.le_cons rfl ?_)))⟩
            · clear S gd gt
              rintro ⟨b, g⟩ h ⟨S, gd, gt⟩
              skip
              all_goals (repeat' (first | (refine K_region (id := 15) ?_; refine mv ?_; refine ad ?_; refine mv ?_; refine KO_nil ?_)))
              refine ⟨(k + 1, b, g), ?_, ?_, (by repeat (first | exact Ks.le_nil _ | refine Ks.le_cons rfl ?_))⟩
              · show 4 - (k + 1) < 4 - k; omega
              · exact ⟨⟨S, gd, gt⟩, by omega⟩
          · obtain rfl : k = 4 := by omega
            exact ⟨(b, g), ⟨S, gd, gt⟩, ((by repeat (first | exact Ks.le_nil _ | refine Ks.le_cons rfl ?_)))⟩
        · clear S gd gt
          rintro ⟨b, g⟩ h ⟨S, gd, gt⟩
          skip
          all_goals (repeat' (first | refine K_seq ?_ | (refine K_region (id := 19) ?_; refine vl ?_; refine lB S rfl rfl ?_; refine mv ?_; refine KO_nil ?_) | (refine K_region (id := 20) ?_; refine mv ?_; refine lB S rfl rfl ?_; (refine one 9 S ?_; clear S; intro u h S))))
          refine app (y0 := g) S rfl rfl ?_; clear S; intro v h S; obtain ⟨vg', rfl⟩ := S.sV v; ((refine vl ?_); (first | (refine sB S rfl rfl ?_; clear S; intro h S)); refine KO_nil ?_)
          all_goals (repeat' (first | (refine K_region (id := 4) ?_; refine mv ?_; refine ad ?_; refine mv ?_; refine KO_nil ?_)))
          refine ⟨(gs ++ [g], vg'), ?_, ?_, (by repeat (first | exact Ks.le_nil _ | refine Ks.le_cons rfl ?_ | refine Ks.le_int ?_))⟩
          · show 12 - (gs ++ [g]).length < 12 - gs.length; simp; omega
          · replace S : Hs h0 h [.sl vg'.val 24 9 eG (gs ++ [g]), .blk b (eG g) 24, .sl g.tv.val 9 1 eS g.tg, tgR gs, .blk q [vg'.val, .slice none 0 0] 32, .blk q4 [.slice none 0 0, .slice none 0 0] 32] := S
            have S := (show Hs h0 h (.sl g.tv.val 9 1 eS g.tg :: tgR gs :: .sl vg'.val 24 9 eG (gs ++ [g]) :: .blk q [vg'.val, .slice none 0 0] 32 :: .blk q4 [.slice none 0 0, .slice none 0 0] 32 :: []) from S.pick)
            refine ⟨Hs.tgApp S, by simp; omega, by simp; omega, fun i hi => ?_⟩
            simp at hi
            rcases Nat.lt_or_ge i gs.length with z | z
            · rw [gA1 z]; exact g3 i z
            · obtain rfl : i = gs.length := by omega
              rw [gA2 (Nat.le_refl _), Nat.sub_self]
              exact ⟨gd, gt⟩
    all_goals exact ⟨(gs, vg), ⟨S, g1, g2, g3⟩, ((by repeat (first | exact Ks.le_nil _ | refine Ks.le_cons rfl ?_)))⟩
  · clear S
    rintro ⟨gs, vg⟩ h ⟨S, g1, g2, g3⟩
    obtain ⟨us, hus⟩ : ∃ us, us = gs.map (·.toGu) := ⟨_, rfl⟩
    have hul : us.length = gs.length := by rw [hus]; simp
    have hun : ∀ i, i < us.length → (us.getD i default).name = num (25 * i) := fun i hi => by
      rw [hus, map_getD (by omega)]; exact (g3 i (by omega)).1.1
    have hth : ∀ i, i < 312 → ((∃ m, m < gs.length ∧ (gs.getD m default).name = num i) ↔ i % 25 = 0 ∧ i / 25 < gs.length) := fun i hi => by
      constructor
      · rintro ⟨m, h1, h2⟩
        rw [(g3 m h1).1.1] at h2
        have := num_inj (by omega) (by omega) h2
        omega
      · rintro ⟨h1, h2⟩
        exact ⟨i / 25, h2, by rw [(g3 _ h2).1.1]; congr 1; omega⟩
    have hgat : ∀ i, i < 312 → i % 25 = 0 → i / 25 < gs.length → gat us (num i) ≠ none := fun i hi h1 h2 => by
      rw [gat_mem]
      exact ⟨_, mem_getD (show i / 25 < us.length by omega), by rw [hun _ (by omega)]; congr 1; omega⟩
    have S := S.nilS (e := 111) (z := 3) (enc := eTi)
    replace S : Hs h0 h [.sl (SlV.val ⟨none, 0, 0⟩) 111 3 eTi [], tgR gs, .sl vg.val 24 9 eG gs, .blk q [vg.val, SlV.val ⟨none, 0, 0⟩] 32, .blk q4 [.slice none 0 0, .slice none 0 0] 32] := S
    have S := (show Hs h0 h (MdQ q q4 gs vg [] ⟨none, 0, 0⟩) from S.pick)
    skip
    all_goals (repeat' (first | refine K_seq ?_ | (refine K_region (id := 21) ?_; refine mv ?_; refine KO_nil ?_) | (refine K_region (id := 22) ?_; refine mv ?_; refine KO_nil ?_)))
    (repeat (refine K_seq ?_)); first | refine K_join1 (σ := List Ti × SlV) (fun (ts, vt) h' => Hs h0 h' (MdQ q q4 gs vg ts vt) ∧ TIo us ts 312) (fun (ts, vt) => [(4, .pointer (some ⟨q4, 0, none⟩)), (5, .pointer (some ⟨q, 0, none⟩))]) ?_ ?_
    · all_goals (repeat' (refine k_block ?_))
      refine k_loop (σ := List Ti × SlV × Nat × Nat) (fun (ts, vt, c, i) h' => Hs h0 h' (MdQ q q4 gs vg ts vt) ∧ i ≤ 312 ∧ c ≤ 400 * i ∧ TIo us ts i) (fun (ts, vt, c, i) => 312 - i) (fun (ts, vt, c, i) => [(1, vb), (4, .pointer (some ⟨q4, 0, none⟩)), (5, .pointer (some ⟨q, 0, none⟩)), (12, .int .i64 c), (13, .int .i64 i)]) ([], ⟨none, 0, 0⟩, 0, 0) (by repeat (first | exact Ks.le_nil _ | refine Ks.le_cons rfl ?_)) ?_ ?_
      · exact ⟨S, by omega, by omega, by simp [TS], fun t ht => (by cases ht), fun t ht => (by cases ht), by simp⟩
      clear S
      rintro ⟨ts, vt, c, i⟩ h ⟨S, k1, k2, k3⟩
      all_goals (repeat' (first | refine K_seq ?_ | refine k_cond rfl ?_ | refine K_skip ?_ | refine K_exit ?_ | (refine K_region (id := 23) ?_; refine mv ?_; (first | (refine cS ?_ ?_ <;> intro hc)) <;> (refine KO_nil ?_))))
      · (repeat (refine K_seq ?_)); first | refine K_join1 (σ := List Ti × SlV × Nat) (fun (ts, vt, c) h' => Hs h0 h' (MdQ q q4 gs vg ts vt) ∧ c ≤ 400 * (i + 1) ∧ TIo us ts (i + 1)) (fun (ts, vt, c) => [(1, vb), (4, .pointer (some ⟨q4, 0, none⟩)), (5, .pointer (some ⟨q, 0, none⟩)), (12, .int .i64 c), (13, .int .i64 i)]) ?_ ?_
        · all_goals (repeat' (first | refine K_seq ?_ | refine k_block ?_ | (refine K_region (id := 25) ?_; refine mv ?_; refine ad ?_; refine mv ?_; refine KO_nil ?_)))
          refine k_loop (σ := List Ti × SlV × Nat × Nat) (fun (ts, vt, c, k) h' => Hs h0 h' (MdQ q q4 gs vg ts vt) ∧ (i < k ∧ k ≤ 312) ∧ c ≤ 400 * i + k ∧ TI us ts i k) (fun (ts, vt, c, k) => 312 - k) (fun (ts, vt, c, k) => [(1, vb), (4, .pointer (some ⟨q4, 0, none⟩)), (5, .pointer (some ⟨q, 0, none⟩)), (12, .int .i64 c), (13, .int .i64 i), (14, .int .i64 k)]) (ts, vt, c, i + 1) (by repeat (first | exact Ks.le_nil _ | refine Ks.le_cons rfl ?_)) ?_ ?_
          · exact ⟨S, by omega, by omega, k3.inn _⟩
          clear S k2 k3
          rintro ⟨ts, vt, c, k⟩ h ⟨S, k4, k5, k6⟩
          all_goals (repeat' (first | refine K_seq ?_ | refine k_cond rfl ?_ | refine K_skip ?_ | refine K_exit ?_ | (refine K_region (id := 26) ?_; refine mv ?_; (first | (refine cS ?_ ?_ <;> intro hc)) <;> (refine KO_nil ?_))))
          · (repeat (refine K_seq ?_)); first | refine K_join1 (σ := List Ti × SlV × Nat) (fun (ts, vt, c) h' => Hs h0 h' (MdQ q q4 gs vg ts vt) ∧ c ≤ 400 * i + (k + 1) ∧ TI us ts i (k + 1)) (fun (ts, vt, c) => [(1, vb), (4, .pointer (some ⟨q4, 0, none⟩)), (5, .pointer (some ⟨q, 0, none⟩)), (12, .int .i64 c), (13, .int .i64 i), (14, .int .i64 k)]) ?_ ?_
            · all_goals (repeat' (first | refine K_seq ?_ | refine k_block ?_))
              all_goals (repeat' (first | (refine K_region (id := 28) ?_; refine lB S rfl rfl ?_; refine mv ?_)))
              (refine KO_fn rfl rfl rfl rfl rfl ((there_ok S.wf vg vt gs (Rd.of_sl S .here) (by omega) i (by omega)).mono ?_); rintro _ h ⟨⟨rfl, z1⟩ | ⟨rfl, z1⟩, x⟩) <;> (replace S := S.join0 x; clear x; refine vl ?_; refine KO_nil ?_)
              · rw [hth i (by omega)] at z1
                all_goals (repeat' (first | refine K_seq ?_ | refine k_cond rfl ?_ | refine K_skip ?_))
                all_goals (repeat' (first | (refine K_region (id := 29) ?_; refine lB S rfl rfl ?_; refine mv ?_)))
                (refine KO_fn rfl rfl rfl rfl rfl ((there_ok S.wf vg vt gs (Rd.of_sl S .here) (by omega) k (by omega)).mono ?_); rintro _ h ⟨⟨rfl, z2⟩ | ⟨rfl, z2⟩, x⟩) <;> (replace S := S.join0 x; clear x; refine vl ?_; refine KO_nil ?_)
                · rw [hth k (by omega)] at z2
                  all_goals (repeat' (first | refine K_seq ?_ | refine k_cond rfl ?_ | refine K_skip ?_))
                  (repeat (refine K_seq ?_)); first | refine K_join (σ := List Ti × SlV) (fun (ts, vt) h' => Hs h0 h' (MdQ q q4 gs vg ts vt) ∧ TI us ts i (k + 1)) (fun (ts, vt) => [(1, vb), (4, .pointer (some ⟨q4, 0, none⟩)), (5, .pointer (some ⟨q, 0, none⟩)), (12, .int .i64 c), (13, .int .i64 i), (14, .int .i64 k)]) ?_ ?_
                  · all_goals (repeat' (first | refine K_seq ?_ | refine k_cond rfl ?_ | refine K_skip ?_ | (refine K_region (id := 30) ?_; refine mv ?_; refine mv ?_; refine lnB S ?_; (first | (refine cS ?_ ?_ <;> intro hc)) <;> (refine mv ?_; (first | refine off ?_ | refine mv ?_); (first | refine off ?_ | refine mv ?_); (first | refine off ?_ | (refine ixB S ?_)); (first | refine off ?_ | (refine lEB S ?_)); (first | refine off ?_ | refine rmU ?_); (first | refine off ?_ | (first | (refine cS ?_ ?_ <;> intro hc))) <;> (refine vl ?_; refine KO_nil ?_))) | (refine K_region (id := 31) ?_; refine vl ?_; refine lB S rfl rfl ?_; refine mv ?_; refine KO_nil ?_)))
                    · have h8c := h8 c (by omega)
                      simp only [Int.toNat_natCast] at *
                      (repeat (refine K_seq ?_)); refine K_drawX (id := 32) [(8, (0, 2))] [some (blkS vb)] ?_; refine KX_cons ?_; (first | (refine mv ?_ <;> refine KO_nil ⟨⟨by (first | exact True.intro), rfl⟩, ?_⟩)); refine KX_cons ?_; (first | (refine mv ?_ <;> refine KO_nil ⟨⟨by (first | exact True.intro), rfl⟩, ?_⟩))
                      ((refine KX_cons ?_; first | refine KO_fn rfl rfl rfl rfl rfl ((number_ok S.wf i (by omega)).mono ?_)); rintro _ h ⟨rfl, x⟩) <;> ((refine KO_nil ⟨⟨True.intro, ?_⟩, ?_⟩; (focus ((show keepsX _ _ _ _ _; simp only [keepsX]; (repeat' (first | exact True.intro | refine And.intro ?_ ?_)); all_goals (intro hw; first | exact x.ext.old _ (S.bX (by assumption) (by assumption) (by first | omega))))))); replace S := S.join0 x; clear x; refine KX_cons ?_; (first | (refine mv ?_ <;> refine KO_nil ⟨⟨by (first | exact True.intro), rfl⟩, ?_⟩)))
                      ((refine KX_cons ?_; first | refine KO_fn rfl rfl rfl rfl rfl ((number_ok S.wf k (by omega)).mono ?_)); rintro _ h ⟨rfl, x⟩) <;> ((refine KO_nil ⟨⟨True.intro, ?_⟩, ?_⟩; (focus ((show keepsX _ _ _ _ _; simp only [keepsX]; (repeat' (first | exact True.intro | refine And.intro ?_ ?_)); all_goals (intro hw; first | exact x.ext.old _ (S.bX (by assumption) (by assumption) (by first | omega))))))); replace S := S.join0 x; clear x; refine KX_cons ?_; (first | (refine mv ?_ <;> refine KO_nil ⟨⟨by (first | exact True.intro), rfl⟩, ?_⟩)); refine KX_cons ?_; (first | (refine mv ?_ <;> refine KO_nil ⟨⟨by (first | exact True.intro), rfl⟩, ?_⟩)); refine KX_cons ?_; (first | (refine ixB S ?_ <;> refine KO_nil ⟨⟨by (first | exact True.intro), rfl⟩, ?_⟩)); refine KX_cons ?_; (first | (refine lEB S ?_ <;> refine KO_nil ⟨⟨by (first | exact Or.inr (congrArg some (blkOf_elA _ _ _ _))), rfl⟩, ?_⟩)); refine KX_cons ?_; (first | (refine rmU ?_ <;> refine KO_nil ⟨⟨by (first | exact True.intro), rfl⟩, ?_⟩)); refine KX_cons ?_; (first | (refine aU ?_ <;> refine KO_nil ⟨⟨by (first | exact True.intro), rfl⟩, ?_⟩)); refine KX_cons ?_; (first | (refine vl ?_ <;> refine KO_nil ⟨⟨by (first | exact True.intro), rfl⟩, ?_⟩)); refine KX_cons ?_; (first | ((refine one 3 S ?_; have S0 := S; clear S; intro u h S); refine KO_nil ⟨⟨True.intro, ?_⟩, ?_⟩; (focus ((show keepsX _ _ _ _ _; simp only [keepsX]; (repeat' (first | exact True.intro | refine And.intro ?_ ?_)); all_goals (intro hw; first | exact absurd hw (by decide +kernel))))); clear S0)))
                      have htl := k6.2.2.2
                      have htl2 : ts.length ≤ 1000 := by split at htl <;> omega
                      refine KX_cons ?_; refine app (y0 := ⟨num i, num k, 1 + ((lb.getD c default : Nat) : Int) % 4⟩) S rfl rfl ?_; have S0 := S; clear S; intro v h S; obtain ⟨vt', rfl⟩ := S.sV v; refine KO_nil ⟨⟨True.intro, ?_⟩, ?_⟩; (focus ((show keepsX _ _ _ _ _; simp only [keepsX]; (repeat' (first | exact True.intro | refine And.intro ?_ ?_)); all_goals (intro hw; first | exact absurd hw (by decide +kernel))))); clear S0; (refine KX_cons ?_; (first | (refine vl ?_ <;> refine KO_nil ⟨⟨by (first | exact True.intro), rfl⟩, ?_⟩)); refine KX_cons ?_; (first | ((refine sB S rfl rfl ?_; have S0 := S; clear S; intro h S); refine KO_nil ⟨⟨True.intro, ?_⟩, ?_⟩; (focus ((show keepsX _ _ _ _ _; simp only [keepsX]; (repeat' (first | exact True.intro | refine And.intro ?_ ?_)); all_goals (intro hw; first | exact absurd hw (by decide +kernel))))); clear S0)); refine KX_nil ?_)
                      all_goals (repeat' (fail))
                      replace S : Hs h0 h [.sl vt'.val 111 3 eTi (ts ++ [⟨num i, num k, 1 + ((lb.getD c default : Nat) : Int) % 4⟩]), .sl vg.val 24 9 eG gs, .blk q4 [.slice none 0 0, .slice none 0 0] 32, tgR gs, .blk q [vg.val, vt'.val] 32] := S
                      exact ⟨(_, vt'), ⟨S.pick, k6.app (z := 1 + ((lb.getD c default : Nat) : Int) % 4) k4.1 (by omega) (by omega) z1.1 z2.1 (hgat i (by omega) z1.1 z1.2) (hgat k (by omega) z2.1 z2.2)⟩, ((by repeat (first | exact Ks.le_nil _ | refine Ks.le_cons rfl ?_)))⟩
                    all_goals
                      all_goals (repeat' (fail))
                      exact ⟨(ts, vt), ⟨S, k6.next (by omega)⟩, ((by repeat (first | exact Ks.le_nil _ | refine Ks.le_cons rfl ?_)))⟩
                  · clear S
                    rintro ⟨ts, vt⟩ h ⟨S, k6⟩
                    skip
                    all_goals (repeat' (first | (refine K_region (id := 33) ?_; refine mv ?_; refine ad ?_; refine mv ?_; refine KO_nil ?_)))
                    exact ⟨(ts, vt, c + 1), ⟨S, by omega, k6⟩, ((by repeat (first | exact Ks.le_nil _ | refine Ks.le_cons rfl ?_)))⟩
                · all_goals (repeat' (first | refine k_cond rfl ?_ | refine K_exit ?_))
                  exact ⟨(ts, vt, c), ⟨S, by omega, k6.next (by omega)⟩, ((by repeat (first | exact Ks.le_nil _ | refine Ks.le_cons rfl ?_)))⟩
              · all_goals (repeat' (first | refine k_cond rfl ?_ | refine K_exit ?_))
                exact ⟨(ts, vt, c), ⟨S, by omega, k6.out (by omega) (by omega)⟩, ((by repeat (first | exact Ks.le_nil _ | refine Ks.le_cons rfl ?_)))⟩
            · clear S k5 k6
              rintro ⟨ts, vt, c⟩ h ⟨S, k5, k6⟩
              skip
              all_goals (repeat' (first | (refine K_region (id := 27) ?_; refine mv ?_; refine ad ?_; refine mv ?_; refine KO_nil ?_)))
              refine ⟨(ts, vt, c, k + 1), ?_, ?_, (by repeat (first | exact Ks.le_nil _ | refine Ks.le_cons rfl ?_))⟩
              · show 312 - (k + 1) < 312 - k; omega
              · exact ⟨S, by omega, by omega, k6⟩
          · exact ⟨(ts, vt, c), ⟨S, by omega, k6.out (by omega) (by omega)⟩, ((by repeat (first | exact Ks.le_nil _ | refine Ks.le_cons rfl ?_)))⟩
        · clear S k2 k3
          rintro ⟨ts, vt, c⟩ h ⟨S, k2, k3⟩
          skip
          all_goals (repeat' (first | (refine K_region (id := 24) ?_; refine mv ?_; refine ad ?_; refine mv ?_; refine KO_nil ?_)))
          refine ⟨(ts, vt, c, i + 1), ?_, ?_, (by repeat (first | exact Ks.le_nil _ | refine Ks.le_cons rfl ?_))⟩
          · show 312 - (i + 1) < 312 - i; omega
          · exact ⟨S, by omega, by omega, k3⟩
      · obtain rfl : i = 312 := by omega
        exact ⟨(ts, vt), ⟨S, k3⟩, ((by repeat (first | exact Ks.le_nil _ | refine Ks.le_cons rfl ?_)))⟩
    · clear S
      rintro ⟨ts, vt⟩ h ⟨S, k3⟩
      skip
      all_goals (repeat' (first | refine K_seq ?_ | (refine K_region (id := 34) ?_; refine lB S rfl rfl ?_; (first | (refine sB S rfl rfl ?_; clear S; intro h S)); refine KO_nil ?_)))
      refine K_ret ⟨_, ret_cell S rfl (by first | exact .there .here) (by exact rfl) (by exact rfl), ?_⟩
      obtain ⟨fp, ht⟩ := S.anyP (.there (.there .here))
      refine ⟨⟨vg, vt, gs⟩, ⟨us, ts⟩, rfl, ⟨Rd.of_sl S .here, Rd.of_sl S (.there (.there (.there (.there .here)))), fun i hi => ⟨TgsOk.rd ht hi, ?_⟩, hus.symm, ?_, ?_⟩, ⟨fun g hg => ?_, fun i j hij hj => ?_, ?_, k3.1, k3.2.1, ?_⟩, ⟨?_, hun⟩, S.drop⟩
      · have := (g3 i hi).2.1; show (gs.getD i default).tg.length ≤ _; omega
      · show us.length ≤ _; omega
      · have := k3.2.2.2; show ts.length ≤ _; omega
      · obtain ⟨i, hi, rfl⟩ := mem_iff_getD.1 hg
        rw [hus, map_getD (show i < gs.length by rw [← hul]; exact hi)]
        exact Md_chk (g3 i (by rw [← hul]; exact hi)).1 (g3 i (by rw [← hul]; exact hi)).2
      · replace hj : j < us.length := hj
        rw [hun i (by omega), hun j hj]
        intro q
        have := num_inj (by omega) (by omega) q
        omega
      · show us.length ≤ _; omega
      · have := k3.2.2.2; show ts.length ≤ _; omega
      · show us.length ≤ _; omega
end Go.Proofs.Xx
