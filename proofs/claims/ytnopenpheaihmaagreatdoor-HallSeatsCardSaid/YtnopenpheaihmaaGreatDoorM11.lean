/-
  HallSeats: what is asked of seats and pairs of seats.
-/
import Derived.Test.YtnopenpheaihmaaGreatDoorM10
import Derived.Test.YtnopenpheaihmaaGreatDoorM5
import Derived.Test.YtnopenpheaihmaaGreatDoorRows
import Derived.Lib.LaidTab

namespace Go.Proofs.Xx
open Go Go.Proofs
set_option linter.unusedSimpArgs false
set_option linter.unusedVariables false
set_option maxRecDepth 100000
set_option maxHeartbeats 8000000

section
variable {t u : Tab}
theorem SameTab.beside (h : SameTab t u) : besideP t = besideP u := by unfold SameTab at h; rw [h]; rfl
theorem SameTab.across (h : SameTab t u) : acrossP t = acrossP u := by unfold SameTab at h; rw [h]; rfl
theorem SameTab.near (h : SameTab t u) : nearP t = nearP u := by unfold SameTab at h; rw [h]; rfl
theorem SameTab.hon (h : SameTab t u) : tHon t = tHon u := by unfold SameTab at h; rw [h]; rfl
theorem SameTab.opn (h : SameTab t u) : openP t = openP u := by unfold SameTab at h; rw [h]; rfl
end
section
variable {l2 l : List Tab}
theorem SameAll.whereI (s : SameAll l2 l) {a : Int} {i k : Nat} : WhereI l2 a i k ↔ WhereI l a i k := by
  unfold WhereI
  simp only [s.valid, s.1, s.size, s.sum]
theorem SameAll.whereR (s : SameAll l2 l) {a x y : Int} {f : Bool} (h : WhereR l2 a x y f) : WhereR l a x y f := by
  unfold WhereR at h ⊢
  simp only [s.whereI] at h
  exact h
theorem SameAll.distR (s : SameAll l2 l) {a b d : Int} {f : Bool} (h : DistR l2 a b d f) : DistR l a b d f := by
  unfold DistR at h ⊢
  simp only [s.whereI, (s.all _).near, s.size] at h
  exact h
theorem SameAll.levR (s : SameAll l2 l) {a d : Int} (h : LevR l2 a d) : LevR l a d := by
  unfold LevR at h ⊢
  simp only [s.whereI, (s.all _).near, (s.all _).hon, s.size] at h
  exact h
theorem SameAll.openR (s : SameAll l2 l) {a : Int} : OpenR l2 a ↔ OpenR l a := by
  unfold OpenR
  simp only [s.whereI, (s.all _).opn]
theorem SameAll.nbR (s : SameAll l2 l) {a : Int} {out : List Int} (h : NbR l2 a out) : NbR l a out := by
  unfold NbR at h ⊢
  simp only [s.whereI, (s.all _).near, s.size] at h
  exact h
theorem SameAll.both_b (s : SameAll l2 l) {a b : Int} : BothP besideP l2 a b ↔ BothP besideP l a b := by
  unfold BothP
  simp only [s.whereI, (s.all _).beside]
theorem SameAll.both_a (s : SameAll l2 l) {a b : Int} : BothP acrossP l2 a b ↔ BothP acrossP l a b := by
  unfold BothP
  simp only [s.whereI, (s.all _).across]
theorem SameAll.both_n (s : SameAll l2 l) {a b : Int} : BothP nearP l2 a b ↔ (BothP besideP l a b ∨ BothP acrossP l a b) := by
  unfold BothP
  simp only [s.whereI, (s.all _).near]
  constructor
  · rintro ⟨i, k, m, h1, h2, h3 | h3⟩
    · exact .inl ⟨i, k, m, h1, h2, h3⟩
    · exact .inr ⟨i, k, m, h1, h2, h3⟩
  · rintro (⟨i, k, m, h1, h2, h3⟩ | ⟨i, k, m, h1, h2, h3⟩)
    · exact ⟨i, k, m, h1, h2, .inl h3⟩
    · exact ⟨i, k, m, h1, h2, .inr h3⟩
end
theorem DistR.unique {l : List Tab} {a b d d' : Int} {f f' : Bool} (h : DistR l a b d f) (g : DistR l a b d' f') : d = d' ∧ f = f' := by
  rcases h with ⟨rfl, i, k, m, e, h1, h2, rfl, h3⟩ | ⟨rfl, rfl, h⟩ <;> rcases g with ⟨rfl, i', k', m', e', g1, g2, rfl, g3⟩ | ⟨rfl, rfl, g⟩
  · obtain ⟨rfl, rfl⟩ := h1.unique g1
    obtain ⟨-, rfl⟩ := h2.unique g2
    rw [h3.unique g3]
    exact ⟨rfl, rfl⟩
  · exact absurd h3 (g _ _ _ _ h1 h2)
  · exact absurd g3 (h _ _ _ _ g1 g2)
  · exact ⟨rfl, rfl⟩
theorem LevR.unique {l : List Tab} {a d d' : Int} (h : LevR l a d) (g : LevR l a d') : d = d' := by
  rcases h with ⟨i, k, ld, h1, h2, rfl⟩ | ⟨rfl, h⟩ <;> rcases g with ⟨i', k', ld', g1, g2, rfl⟩ | ⟨rfl, g⟩
  · obtain ⟨rfl, rfl⟩ := h1.unique g1
    rw [h2.unique g2]
  · exact absurd h1 (g _ _)
  · exact absurd g1 (h _ _)
  · rfl
theorem NbR.unique {l : List Tab} {a : Int} {o o' : List Int} (h : NbR l a o) (g : NbR l a o') : o = o' := by
  rcases h with ⟨i, k, h1, rfl⟩ | ⟨rfl, h⟩ <;> rcases g with ⟨i', k', g1, rfl⟩ | ⟨rfl, g⟩
  · obtain ⟨rfl, rfl⟩ := h1.unique g1; rfl
  · exact absurd h1 (g _ _)
  · exact absurd g1 (h _ _)
  · rfl
/-- All seats of a hall, if it is valid. -/
def AllR (l : List Tab) (out : List (Nat × Nat)) : Prop := (ValidL l ∧ SeatsTo l l.length 0 out) ∨ (¬ ValidL l ∧ out = [])
theorem AllR.in_ {l : List Tab} {out : List (Nat × Nat)} (a : AllR l out) {x : Nat} (h : x < out.length) : WhereI l x (out.getD x default).1 (out.getD x default).2 := by
  rcases a with ⟨v, s⟩ | ⟨-, rfl⟩
  · have := s.2 x h
    exact ⟨v, by omega, this.2.1, this.2.2⟩
  · simp at h
theorem AllR.out {l : List Tab} {out : List (Nat × Nat)} (a : AllR l out) {x : Int} (h : x < 0 ∨ (out.length : Int) ≤ x) (i k : Nat) : ¬ WhereI l x i k := by
  rintro ⟨w1, w2, w3, w4⟩
  rcases a with ⟨v, s⟩ | ⟨v, rfl⟩
  · have h1 := s.1
    have b1 := sumT_le l i
    have := sumT_mono l (show i + 1 ≤ l.length by omega)
    simp only [sumT] at this
    omega
  · exact v w1
theorem AllR.len {l : List Tab} {out : List (Nat × Nat)} (a : AllR l out) (hl : l.length ≤ 1000) : out.length ≤ 24000 := by
  rcases a with ⟨v, s⟩ | ⟨v, rfl⟩
  · have h1 := s.1
    have b1 := sumT_le l l.length
    omega
  · simp
theorem known_ok {h0 : AH} (w : WfH h0) (vs : Value) (l : List Tab) (out : List (Nat × Nat)) (hr : RdL h0 vs 2 eSt out) (ao : AllR l out) (hl : l.length ≤ 1000) (x : Int) : Fn Tryz.prog Xh 128 [vs, .int .i64 x] h0 (fun r h' => ∃ a b f, r = .tuple #[.agg #[.int .i64 a, .int .i64 b], .bool f] ∧ WhereR l x a b f ∧ Hs h0 h' []) := by
  have S := Hs.start w
  have hol := ao.len hl
  by_cases hx : x < 0
  · refine Fn_K rfl Tryz.func128 rfl rfl ?_
    all_goals (repeat' (first | refine K_seq ?_ | refine k_cond rfl ?_ | refine K_skip ?_ | refine K_exit ?_ | refine k_block ?_ | refine K_scope ?_ | (refine K_region (id := 0) ?_; (refine al S ?_; clear S; intro b h S); refine mv ?_; refine KO_nil ?_) | (refine K_region (id := 1) ?_; refine mv ?_; (first | refine cT ?_ | refine cF ?_ | (refine cS ?_ ?_ <;> intro hc)) <;> (refine mv ?_; (first | refine off ?_ | refine mv ?_); (first | refine off ?_ | refine mv ?_); (first | refine off ?_ | (first | refine lnB S ?_ | refine lnS S rfl rfl ?_)); (first | refine off ?_ | (first | refine cT ?_ | refine cF ?_ | (refine cS ?_ ?_ <;> intro hc))) <;> (refine vl ?_; refine KO_nil ?_))) | (refine K_region (id := 2) ?_; refine vl ?_; (first | (refine sB S rfl rfl ?_; clear S; intro h S) | (refine sE S rfl rfl ?_; clear S; intro h S)); refine mv ?_; refine KO_nil ?_) | (refine K_region (id := 3) ?_; refine mv ?_; refine mv ?_; (first | refine ixB S ?_ | refine ixS S rfl rfl ?_); (first | refine lB S rfl rfl ?_ | refine lES S rfl rfl ?_ | refine lEB S ?_ | refine lH S ?_); (first | (refine sB S rfl rfl ?_; clear S; intro h S) | (refine sE S rfl rfl ?_; clear S; intro h S)); refine mv ?_; refine KO_nil ?_)))
    all_goals (try omega)
    refine K_ret ⟨_, ret_cell S rfl (by first | exact .here | exact .there .here | exact .there (.there .here)) (by exact rfl) (by exact rfl), ?_⟩
    exact ⟨0, 0, false, rfl, .inr ⟨rfl, rfl, rfl, ao.out (.inl hx)⟩, S.drop⟩
  obtain ⟨n, rfl⟩ := Int.eq_ofNat_of_zero_le (show 0 ≤ x by omega)
  refine Fn_K rfl Tryz.func128 rfl rfl ?_
  all_goals (repeat' (first | refine K_seq ?_ | refine k_cond rfl ?_ | refine K_skip ?_ | refine K_exit ?_ | refine k_block ?_ | refine K_scope ?_ | (refine K_region (id := 0) ?_; (refine al S ?_; clear S; intro b h S); refine mv ?_; refine KO_nil ?_) | (refine K_region (id := 1) ?_; refine mv ?_; (first | refine cT ?_ | refine cF ?_ | (refine cS ?_ ?_ <;> intro hc)) <;> (refine mv ?_; (first | refine off ?_ | refine mv ?_); (first | refine off ?_ | refine mv ?_); (first | refine off ?_ | (first | refine lnB S ?_ | refine lnS S rfl rfl ?_)); (first | refine off ?_ | (first | refine cT ?_ | refine cF ?_ | (refine cS ?_ ?_ <;> intro hc))) <;> (refine vl ?_; refine KO_nil ?_))) | (refine K_region (id := 2) ?_; refine vl ?_; (first | (refine sB S rfl rfl ?_; clear S; intro h S) | (refine sE S rfl rfl ?_; clear S; intro h S)); refine mv ?_; refine KO_nil ?_) | (refine K_region (id := 3) ?_; refine mv ?_; refine mv ?_; (first | refine ixB S ?_ | refine ixS S rfl rfl ?_); (first | refine lB S rfl rfl ?_ | refine lES S rfl rfl ?_ | refine lEB S ?_ | refine lH S ?_); (first | (refine sB S rfl rfl ?_; clear S; intro h S) | (refine sE S rfl rfl ?_; clear S; intro h S)); refine mv ?_; refine KO_nil ?_)))
  all_goals (try omega)
  all_goals (try simp only [Int.toNat_natCast] at *)
  · refine K_ret ⟨_, ret_cell S rfl (by first | exact .here | exact .there .here | exact .there (.there .here)) (by exact rfl) (by exact rfl), ?_⟩
    exact ⟨0, 0, false, rfl, .inr ⟨rfl, rfl, rfl, ao.out (.inr (by omega))⟩, S.drop⟩
  · refine K_ret ⟨_, ret_cell S rfl (by first | exact .here | exact .there .here | exact .there (.there .here)) (by exact rfl) (by exact rfl), ?_⟩
    exact ⟨_, _, true, rfl, .inl ⟨rfl, _, _, rfl, rfl, ao.in_ (by omega)⟩, S.drop⟩
theorem BoolIs.T {v : Value} {p : Prop} (h : BoolIs v p) (q : p) : v = .bool true := by
  rcases h with ⟨h, -⟩ | ⟨-, h⟩
  · exact h
  · exact absurd q h
theorem BoolIs.F {v : Value} {p : Prop} (h : BoolIs v p) (q : ¬ p) : v = .bool false := by
  rcases h with ⟨-, h⟩ | ⟨h, -⟩
  · exact absurd h q
  · exact h
theorem BoolIs.iff {v : Value} {p q : Prop} (h : BoolIs v p) (e : p ↔ q) : BoolIs v q := by
  rcases h with ⟨h1, h2⟩ | ⟨h1, h2⟩
  · exact .inl ⟨h1, e.1 h2⟩
  · exact .inr ⟨h1, fun k => h2 (e.2 k)⟩
theorem both_iff {P : Tab → Int → Int → Prop} {l : List Tab} {a b : Int} {i k m : Nat} (h1 : WhereI l a i k) (h2 : WhereI l b i m) : P (tb l i) k m ↔ BothP P l a b := by
  constructor
  · exact fun h => ⟨i, k, m, h1, h2, h⟩
  · rintro ⟨i', k', m', q1, q2, q3⟩
    obtain ⟨rfl, rfl⟩ := h1.unique q1
    obtain ⟨-, rfl⟩ := h2.unique q2
    exact q3
theorem lawPair_ok {h0 : AH} (w : WfH h0) (vo v vs vf : Value) (l2 l : List Tab) (out : List (Nat × Nat)) (ld : List Int) (ya yb : Int) (H2 : HallR h0 vo l2) (H : HallR h0 v l) (sa : SameAll l2 l) (hs : RdL h0 vs 2 eSt out) (ao : AllR l out) (ha0 : ya ≤ 9223372036854775807) (hb0 : yb ≤ 9223372036854775807)
    (hf : RdL h0 vf 1 eI ld) (hd : ∀ i k, WhereI l ya i k → DistL (nearP (tb l i)) (tsize (tb l i)).toNat k ld) : Fn Tryz.prog Xh 133 [vo, v, vs, .int .i64 ya, .int .i64 yb, vf] h0 (fun r h' => r = .bool true ∧ Hs h0 h' []) := by
  have S := Hs.start w
  have hr := H.rd
  have hl := H.len
  refine Fn_K rfl Tryz.func133 rfl rfl ?_
  all_goals (repeat' (first | refine K_seq ?_ | refine k_cond rfl ?_ | refine K_skip ?_ | refine K_exit ?_ | refine k_block ?_ | refine K_scope ?_ | (refine K_region (id := 0) ?_; refine mv ?_; refine KO_nil ?_) | (refine K_region (id := 1) ?_; refine mv ?_; refine mv ?_)))
  (refine KO_fn rfl rfl rfl rfl rfl ((known_ok S.wf vs l out hs ao H.len ya).mono ?_); rintro _ h ⟨_, _, _, rfl, ⟨rfl, i, k, rfl, rfl, w1⟩ | ⟨rfl, rfl, rfl, w1⟩, x⟩) <;> (replace S := S.join0 x; clear x; refine mv ?_; refine vl ?_; refine vl ?_; (refine al S ?_; clear S; intro b h S); (first | (refine sB S rfl rfl ?_; clear S; intro h S) | (refine sE S rfl rfl ?_; clear S; intro h S)); refine mv ?_; refine KO_nil ?_)
  all_goals (all_goals (repeat' (first | refine K_seq ?_ | refine k_cond rfl ?_ | refine K_skip ?_ | refine K_exit ?_ | refine k_block ?_ | refine K_scope ?_ | (refine K_region (id := 2) ?_; refine mv ?_; refine mv ?_))))
  all_goals (obtain ⟨bs, hnm⟩ : ∃ x, x = b := ⟨_, rfl⟩; subst hnm)
  all_goals ((refine KO_fn rfl rfl rfl rfl rfl ((known_ok S.wf vs l out (hs.ext w S.ext) ao H.len yb).mono ?_); rintro _ h ⟨_, _, _, rfl, ⟨rfl, j, m, rfl, rfl, w2⟩ | ⟨rfl, rfl, rfl, w2⟩, x⟩) <;> (replace S := S.join0 x; clear x; refine mv ?_; refine vl ?_; refine vl ?_; (refine al S ?_; clear S; intro b h S); (first | (refine sB S rfl rfl ?_; clear S; intro h S) | (refine sE S rfl rfl ?_; clear S; intro h S)); refine mv ?_; refine KO_nil ?_))
  all_goals (obtain ⟨bu, hnm⟩ : ∃ x, x = b := ⟨_, rfl⟩; subst hnm)
  · have hi := w1.2.1
    all_goals (all_goals (repeat' (first | refine K_seq ?_ | refine k_cond rfl ?_ | refine K_skip ?_ | refine K_exit ?_ | refine k_block ?_ | refine K_scope ?_ | (refine K_region (id := 3) ?_; refine mv ?_; refine mv ?_; refine mv ?_; refine mv ?_; refine KO_nil ?_) | (refine K_region (id := 4) ?_; refine mv ?_; refine mv ?_; (first | refine off ?_ | refine mv ?_); refine vl ?_; refine mv ?_; (first | refine off ?_ | (first | refine vl ?_ | refine fB S ?_ | refine fS S rfl rfl ?_ | refine fA ?_)); (first | refine off ?_ | (first | refine lB S rfl rfl ?_ | refine lES S rfl rfl ?_ | refine lEB S ?_ | refine lH S ?_)); (first | refine off ?_ | (first | refine vl ?_ | refine fB S ?_ | refine fS S rfl rfl ?_ | refine fA ?_)); (first | refine off ?_ | (first | refine lB S rfl rfl ?_ | refine lES S rfl rfl ?_ | refine lEB S ?_ | refine lH S ?_)); (first | refine off ?_ | (first | refine cT ?_ | refine cF ?_ | (refine cS ?_ ?_ <;> intro hc))) <;> (refine vl ?_; refine KO_nil ?_)) | (refine K_region (id := 5) ?_; refine mv ?_; (first | refine vl ?_ | refine fB S ?_ | refine fS S rfl rfl ?_ | refine fA ?_); (first | refine lB S rfl rfl ?_ | refine lES S rfl rfl ?_ | refine lEB S ?_ | refine lH S ?_); (first | refine ixB S ?_ | refine ixS S rfl rfl ?_); (first | refine lB S rfl rfl ?_ | refine lES S rfl rfl ?_ | refine lEB S ?_ | refine lH S ?_); (refine al S ?_; clear S; intro b h S); (first | (refine sB S rfl rfl ?_; clear S; intro h S) | (refine sE S rfl rfl ?_; clear S; intro h S)); refine KO_nil ?_) | (refine K_region (id := 9) ?_; refine mv ?_; refine mv ?_; refine mv ?_; skip))))
    rotate_left
    · have fd : DistR l ya yb 0 false := .inr ⟨rfl, rfl, fun i' k' m' e' q1 q2 q3 => by obtain ⟨rfl, rfl⟩ := w1.unique q1; obtain ⟨rfl, rfl⟩ := w2.unique q2; omega⟩
      have hvb' : BoolIs (.bool false) (BothP besideP l ya yb) := .inr ⟨rfl, fun ⟨i', k', m', q1, q2, q3⟩ => by obtain ⟨rfl, rfl⟩ := w1.unique q1; obtain ⟨rfl, rfl⟩ := w2.unique q2; omega⟩
      have hva' : BoolIs (.bool false) (BothP acrossP l ya yb) := .inr ⟨rfl, fun ⟨i', k', m', q1, q2, q3⟩ => by obtain ⟨rfl, rfl⟩ := w1.unique q1; obtain ⟨rfl, rfl⟩ := w2.unique q2; omega⟩
      rcases hvb' with ⟨e, hb⟩ | ⟨e, hb⟩ <;> cases e <;> rcases hva' with ⟨e, ha⟩ | ⟨e, ha⟩ <;> cases e
      all_goals
        (refine KO_fn rfl rfl rfl rfl rfl ((hallDistance_ok S.wf vo l2 (H2.ext w S.ext) ya yb ha0 hb0).mono ?_); rintro _ h ⟨_, _, rfl, hdd, x⟩) <;> (replace S := S.join0 x; clear x; obtain ⟨rfl, rfl⟩ := (sa.distR hdd).unique fd; refine mv ?_; refine vl ?_; refine vl ?_; refine mv ?_; refine mv ?_; refine KO_nil ?_)
        all_goals (repeat' (first | refine K_seq ?_ | refine k_cond rfl ?_ | refine K_skip ?_ | refine K_exit ?_ | refine k_block ?_ | refine K_scope ?_ | (refine K_region (id := 10) ?_; refine mv ?_; refine mv ?_; refine mv ?_; skip)))
        (refine KO_fn rfl rfl rfl rfl rfl ((hallBeside_ok S.wf vo l2 (H2.ext w S.ext) ya yb ha0 hb0).mono ?_); rintro _ h ⟨hv, x⟩) <;> (replace S := S.join0 x; clear x; (first | (have e9 := hv.T (sa.both_b.2 hb); subst e9) | (have e9 := hv.F (fun q => hb (sa.both_b.1 q)); subst e9)); refine mv ?_; (first | refine bT ?_ | refine vl ?_); refine mv ?_; (first | refine off ?_ | refine mv ?_); (first | refine off ?_ | refine mv ?_); (first | refine off ?_ | refine mv ?_); (first | (refine off ?_; (first | refine off ?_ | refine mv ?_); (first | refine off ?_ | (first | refine bT ?_ | refine vl ?_)); refine vl ?_; refine mv ?_; (first | refine off ?_ | refine mv ?_); (first | refine off ?_ | refine mv ?_); (first | refine off ?_ | refine mv ?_); (first | (refine off ?_; (first | refine off ?_ | refine mv ?_); (first | refine off ?_ | refine mv ?_); (first | refine off ?_ | refine mv ?_); (first | refine off ?_ | refine vl ?_); (first | refine off ?_ | (first | refine bT ?_ | refine vl ?_)); refine vl ?_; refine mv ?_; (first | refine off ?_ | refine mv ?_); (first | refine off ?_ | refine mv ?_); (first | refine off ?_ | (first | refine cT ?_ | refine cF ?_ | (refine cS ?_ ?_ <;> intro hc))) <;> (refine vl ?_; refine mv ?_; (first | refine off ?_ | refine mv ?_); (first | refine off ?_ | refine mv ?_); (first | refine off ?_ | (first | refine bT ?_ | refine vl ?_)); refine vl ?_; refine mv ?_; refine KO_nil ?_)) | skip)) | skip))
        (refine KO_fn rfl rfl rfl rfl rfl ((hallAcross_ok S.wf vo l2 (H2.ext w S.ext) ya yb ha0 hb0).mono ?_); rintro _ h ⟨hv, x⟩) <;> (replace S := S.join0 x; clear x; (first | (have e9 := hv.T (sa.both_a.2 ha); subst e9) | (have e9 := hv.F (fun q => ha (sa.both_a.1 q)); subst e9)); (first | refine off ?_ | refine mv ?_); (first | refine off ?_ | (first | refine bT ?_ | refine vl ?_)); refine vl ?_; refine mv ?_; (first | refine off ?_ | refine mv ?_); (first | refine off ?_ | refine mv ?_); (first | refine off ?_ | refine mv ?_); (first | (refine off ?_; (first | refine off ?_ | refine mv ?_); (first | refine off ?_ | refine mv ?_); (first | refine off ?_ | refine mv ?_); (first | refine off ?_ | refine vl ?_); (first | refine off ?_ | (first | refine bT ?_ | refine vl ?_)); refine vl ?_; refine mv ?_; (first | refine off ?_ | refine mv ?_); (first | refine off ?_ | refine mv ?_); (first | refine off ?_ | (first | refine cT ?_ | refine cF ?_ | (refine cS ?_ ?_ <;> intro hc))) <;> (refine vl ?_; refine mv ?_; (first | refine off ?_ | refine mv ?_); (first | refine off ?_ | refine mv ?_); (first | refine off ?_ | (first | refine bT ?_ | refine vl ?_)); refine vl ?_; refine mv ?_; refine KO_nil ?_)) | skip))
        (refine KO_fn rfl rfl rfl rfl rfl ((hallNear_ok S.wf vo l2 (H2.ext w S.ext) ya yb ha0 hb0).mono ?_); rintro _ h ⟨hv, x⟩) <;> (replace S := S.join0 x; clear x; (first | (have e9 := hv.T (sa.both_n.2 (.inl hb)); subst e9) | (have e9 := hv.T (sa.both_n.2 (.inr ha)); subst e9) | (have e9 := hv.F (fun q => (sa.both_n.1 q).elim hb ha); subst e9)); (first | refine off ?_ | refine mv ?_); (first | refine off ?_ | refine mv ?_); (first | refine off ?_ | refine mv ?_); (first | refine off ?_ | refine vl ?_); (first | refine off ?_ | (first | refine bT ?_ | refine vl ?_)); refine vl ?_; refine mv ?_; (first | refine off ?_ | refine mv ?_); (first | refine off ?_ | refine mv ?_); (first | refine off ?_ | (first | refine cT ?_ | refine cF ?_ | (refine cS ?_ ?_ <;> intro hc))) <;> (refine vl ?_; refine mv ?_; (first | refine off ?_ | refine mv ?_); (first | refine off ?_ | refine mv ?_); (first | refine off ?_ | (first | refine bT ?_ | refine vl ?_)); refine vl ?_; refine mv ?_; refine KO_nil ?_))
        all_goals (repeat' (first | refine K_seq ?_ | refine k_cond rfl ?_ | refine K_skip ?_ | refine K_exit ?_ | refine k_block ?_ | refine K_scope ?_))
        refine K_ret ⟨_, rfl, ?_⟩
        exact ⟨rfl, S.drop⟩

    have hij : i = j := by omega
    subst hij
    obtain ⟨bt, hnm⟩ : ∃ x, x = b := ⟨_, rfl⟩; subst hnm
    have hs1 := w1.sz
    have t1 := tsize_le (tb l i)
    have k1 := w1.2.2.1
    have k2 := w2.2.2.1
    have hdi := hd i k w1
    have hdl := hdi.1
    refine K_drawX (id := 6) [(6, (0, 1)), (8, (0, 1)), (10, (0, 1))] [some (bt), some (bs), some (bu)] ?_; refine KX_cons ?_; (first | (refine lB S rfl rfl ?_ <;> refine KO_nil ⟨⟨by (first | exact True.intro | exact Or.inl rfl | exact Or.inr rfl | exact Or.inr (congrArg some (blkOf_elA _ _ _ _)) | exact ⟨Or.inl rfl, rfl⟩ | exact ⟨Or.inr rfl, rfl⟩), rfl⟩, ?_⟩) | (refine lES S rfl rfl ?_ <;> refine KO_nil ⟨⟨by (first | exact True.intro | exact Or.inl rfl | exact Or.inr rfl | exact Or.inr (congrArg some (blkOf_elA _ _ _ _)) | exact ⟨Or.inl rfl, rfl⟩ | exact ⟨Or.inr rfl, rfl⟩), rfl⟩, ?_⟩) | (refine lEB S ?_ <;> refine KO_nil ⟨⟨by (first | exact True.intro | exact Or.inl rfl | exact Or.inr rfl | exact Or.inr (congrArg some (blkOf_elA _ _ _ _)) | exact ⟨Or.inl rfl, rfl⟩ | exact ⟨Or.inr rfl, rfl⟩), rfl⟩, ?_⟩) | (refine lH S ?_ <;> refine KO_nil ⟨⟨by (first | exact True.intro | exact Or.inl rfl | exact Or.inr rfl | exact Or.inr (congrArg some (blkOf_elA _ _ _ _)) | exact ⟨Or.inl rfl, rfl⟩ | exact ⟨Or.inr rfl, rfl⟩), rfl⟩, ?_⟩)); refine KX_cons ?_; (first | (refine vl ?_ <;> refine KO_nil ⟨⟨by (first | exact True.intro | exact Or.inl rfl | exact Or.inr rfl | exact Or.inr (congrArg some (blkOf_elA _ _ _ _)) | exact ⟨Or.inl rfl, rfl⟩ | exact ⟨Or.inr rfl, rfl⟩), rfl⟩, ?_⟩) | (refine fB S ?_ <;> refine KO_nil ⟨⟨by (first | exact True.intro | exact Or.inl rfl | exact Or.inr rfl | exact Or.inr (congrArg some (blkOf_elA _ _ _ _)) | exact ⟨Or.inl rfl, rfl⟩ | exact ⟨Or.inr rfl, rfl⟩), rfl⟩, ?_⟩) | (refine fS S rfl rfl ?_ <;> refine KO_nil ⟨⟨by (first | exact True.intro | exact Or.inl rfl | exact Or.inr rfl | exact Or.inr (congrArg some (blkOf_elA _ _ _ _)) | exact ⟨Or.inl rfl, rfl⟩ | exact ⟨Or.inr rfl, rfl⟩), rfl⟩, ?_⟩) | (refine fA ?_ <;> refine KO_nil ⟨⟨by (first | exact True.intro | exact Or.inl rfl | exact Or.inr rfl | exact Or.inr (congrArg some (blkOf_elA _ _ _ _)) | exact ⟨Or.inl rfl, rfl⟩ | exact ⟨Or.inr rfl, rfl⟩), rfl⟩, ?_⟩)); refine KX_cons ?_; (first | (refine lB S rfl rfl ?_ <;> refine KO_nil ⟨⟨by (first | exact True.intro | exact Or.inl rfl | exact Or.inr rfl | exact Or.inr (congrArg some (blkOf_elA _ _ _ _)) | exact ⟨Or.inl rfl, rfl⟩ | exact ⟨Or.inr rfl, rfl⟩), rfl⟩, ?_⟩) | (refine lES S rfl rfl ?_ <;> refine KO_nil ⟨⟨by (first | exact True.intro | exact Or.inl rfl | exact Or.inr rfl | exact Or.inr (congrArg some (blkOf_elA _ _ _ _)) | exact ⟨Or.inl rfl, rfl⟩ | exact ⟨Or.inr rfl, rfl⟩), rfl⟩, ?_⟩) | (refine lEB S ?_ <;> refine KO_nil ⟨⟨by (first | exact True.intro | exact Or.inl rfl | exact Or.inr rfl | exact Or.inr (congrArg some (blkOf_elA _ _ _ _)) | exact ⟨Or.inl rfl, rfl⟩ | exact ⟨Or.inr rfl, rfl⟩), rfl⟩, ?_⟩) | (refine lH S ?_ <;> refine KO_nil ⟨⟨by (first | exact True.intro | exact Or.inl rfl | exact Or.inr rfl | exact Or.inr (congrArg some (blkOf_elA _ _ _ _)) | exact ⟨Or.inl rfl, rfl⟩ | exact ⟨Or.inr rfl, rfl⟩), rfl⟩, ?_⟩)); refine KX_cons ?_; (first | (refine vl ?_ <;> refine KO_nil ⟨⟨by (first | exact True.intro | exact Or.inl rfl | exact Or.inr rfl | exact Or.inr (congrArg some (blkOf_elA _ _ _ _)) | exact ⟨Or.inl rfl, rfl⟩ | exact ⟨Or.inr rfl, rfl⟩), rfl⟩, ?_⟩) | (refine fB S ?_ <;> refine KO_nil ⟨⟨by (first | exact True.intro | exact Or.inl rfl | exact Or.inr rfl | exact Or.inr (congrArg some (blkOf_elA _ _ _ _)) | exact ⟨Or.inl rfl, rfl⟩ | exact ⟨Or.inr rfl, rfl⟩), rfl⟩, ?_⟩) | (refine fS S rfl rfl ?_ <;> refine KO_nil ⟨⟨by (first | exact True.intro | exact Or.inl rfl | exact Or.inr rfl | exact Or.inr (congrArg some (blkOf_elA _ _ _ _)) | exact ⟨Or.inl rfl, rfl⟩ | exact ⟨Or.inr rfl, rfl⟩), rfl⟩, ?_⟩) | (refine fA ?_ <;> refine KO_nil ⟨⟨by (first | exact True.intro | exact Or.inl rfl | exact Or.inr rfl | exact Or.inr (congrArg some (blkOf_elA _ _ _ _)) | exact ⟨Or.inl rfl, rfl⟩ | exact ⟨Or.inr rfl, rfl⟩), rfl⟩, ?_⟩)); refine KX_cons ?_; (first | (refine lB S rfl rfl ?_ <;> refine KO_nil ⟨⟨by (first | exact True.intro | exact Or.inl rfl | exact Or.inr rfl | exact Or.inr (congrArg some (blkOf_elA _ _ _ _)) | exact ⟨Or.inl rfl, rfl⟩ | exact ⟨Or.inr rfl, rfl⟩), rfl⟩, ?_⟩) | (refine lES S rfl rfl ?_ <;> refine KO_nil ⟨⟨by (first | exact True.intro | exact Or.inl rfl | exact Or.inr rfl | exact Or.inr (congrArg some (blkOf_elA _ _ _ _)) | exact ⟨Or.inl rfl, rfl⟩ | exact ⟨Or.inr rfl, rfl⟩), rfl⟩, ?_⟩) | (refine lEB S ?_ <;> refine KO_nil ⟨⟨by (first | exact True.intro | exact Or.inl rfl | exact Or.inr rfl | exact Or.inr (congrArg some (blkOf_elA _ _ _ _)) | exact ⟨Or.inl rfl, rfl⟩ | exact ⟨Or.inr rfl, rfl⟩), rfl⟩, ?_⟩) | (refine lH S ?_ <;> refine KO_nil ⟨⟨by (first | exact True.intro | exact Or.inl rfl | exact Or.inr rfl | exact Or.inr (congrArg some (blkOf_elA _ _ _ _)) | exact ⟨Or.inl rfl, rfl⟩ | exact ⟨Or.inr rfl, rfl⟩), rfl⟩, ?_⟩))
    ((refine KX_cons ?_; first | refine KO_fn rfl rfl rfl rfl rfl ((besideAt_ok S.wf (tb l i) k m hs1 (by omega) (by omega)).mono ?_)); rintro vb h ⟨hvb, x⟩) <;> ((refine KO_nil ⟨⟨True.intro, ?_⟩, ?_⟩; (focus ((show keepsX _ _ _ _ _; simp only [keepsX]; (repeat' (first | exact True.intro | refine And.intro ?_ ?_)); all_goals (intro hw; first | exact True.intro | exact rfl | exact x.ext.old _ S.bB | exact x.ext.old _ (S.bR (by first | omega | grind)) | (refine x.ext.old _ (S.bX ?_ ?_ ?_); (first | assumption); (first | assumption); first | omega | grind) | (refine x.ext.old _ ?_; assumption) | exact absurd hw (by decide +kernel)))))); replace S := S.join0 x; clear x; refine KX_cons ?_; (first | (refine lB S rfl rfl ?_ <;> refine KO_nil ⟨⟨by (first | exact True.intro | exact Or.inl rfl | exact Or.inr rfl | exact Or.inr (congrArg some (blkOf_elA _ _ _ _)) | exact ⟨Or.inl rfl, rfl⟩ | exact ⟨Or.inr rfl, rfl⟩), rfl⟩, ?_⟩) | (refine lES S rfl rfl ?_ <;> refine KO_nil ⟨⟨by (first | exact True.intro | exact Or.inl rfl | exact Or.inr rfl | exact Or.inr (congrArg some (blkOf_elA _ _ _ _)) | exact ⟨Or.inl rfl, rfl⟩ | exact ⟨Or.inr rfl, rfl⟩), rfl⟩, ?_⟩) | (refine lEB S ?_ <;> refine KO_nil ⟨⟨by (first | exact True.intro | exact Or.inl rfl | exact Or.inr rfl | exact Or.inr (congrArg some (blkOf_elA _ _ _ _)) | exact ⟨Or.inl rfl, rfl⟩ | exact ⟨Or.inr rfl, rfl⟩), rfl⟩, ?_⟩) | (refine lH S ?_ <;> refine KO_nil ⟨⟨by (first | exact True.intro | exact Or.inl rfl | exact Or.inr rfl | exact Or.inr (congrArg some (blkOf_elA _ _ _ _)) | exact ⟨Or.inl rfl, rfl⟩ | exact ⟨Or.inr rfl, rfl⟩), rfl⟩, ?_⟩)); refine KX_cons ?_; (first | (refine vl ?_ <;> refine KO_nil ⟨⟨by (first | exact True.intro | exact Or.inl rfl | exact Or.inr rfl | exact Or.inr (congrArg some (blkOf_elA _ _ _ _)) | exact ⟨Or.inl rfl, rfl⟩ | exact ⟨Or.inr rfl, rfl⟩), rfl⟩, ?_⟩) | (refine fB S ?_ <;> refine KO_nil ⟨⟨by (first | exact True.intro | exact Or.inl rfl | exact Or.inr rfl | exact Or.inr (congrArg some (blkOf_elA _ _ _ _)) | exact ⟨Or.inl rfl, rfl⟩ | exact ⟨Or.inr rfl, rfl⟩), rfl⟩, ?_⟩) | (refine fS S rfl rfl ?_ <;> refine KO_nil ⟨⟨by (first | exact True.intro | exact Or.inl rfl | exact Or.inr rfl | exact Or.inr (congrArg some (blkOf_elA _ _ _ _)) | exact ⟨Or.inl rfl, rfl⟩ | exact ⟨Or.inr rfl, rfl⟩), rfl⟩, ?_⟩) | (refine fA ?_ <;> refine KO_nil ⟨⟨by (first | exact True.intro | exact Or.inl rfl | exact Or.inr rfl | exact Or.inr (congrArg some (blkOf_elA _ _ _ _)) | exact ⟨Or.inl rfl, rfl⟩ | exact ⟨Or.inr rfl, rfl⟩), rfl⟩, ?_⟩)); refine KX_cons ?_; (first | (refine lB S rfl rfl ?_ <;> refine KO_nil ⟨⟨by (first | exact True.intro | exact Or.inl rfl | exact Or.inr rfl | exact Or.inr (congrArg some (blkOf_elA _ _ _ _)) | exact ⟨Or.inl rfl, rfl⟩ | exact ⟨Or.inr rfl, rfl⟩), rfl⟩, ?_⟩) | (refine lES S rfl rfl ?_ <;> refine KO_nil ⟨⟨by (first | exact True.intro | exact Or.inl rfl | exact Or.inr rfl | exact Or.inr (congrArg some (blkOf_elA _ _ _ _)) | exact ⟨Or.inl rfl, rfl⟩ | exact ⟨Or.inr rfl, rfl⟩), rfl⟩, ?_⟩) | (refine lEB S ?_ <;> refine KO_nil ⟨⟨by (first | exact True.intro | exact Or.inl rfl | exact Or.inr rfl | exact Or.inr (congrArg some (blkOf_elA _ _ _ _)) | exact ⟨Or.inl rfl, rfl⟩ | exact ⟨Or.inr rfl, rfl⟩), rfl⟩, ?_⟩) | (refine lH S ?_ <;> refine KO_nil ⟨⟨by (first | exact True.intro | exact Or.inl rfl | exact Or.inr rfl | exact Or.inr (congrArg some (blkOf_elA _ _ _ _)) | exact ⟨Or.inl rfl, rfl⟩ | exact ⟨Or.inr rfl, rfl⟩), rfl⟩, ?_⟩)); refine KX_cons ?_; (first | (refine vl ?_ <;> refine KO_nil ⟨⟨by (first | exact True.intro | exact Or.inl rfl | exact Or.inr rfl | exact Or.inr (congrArg some (blkOf_elA _ _ _ _)) | exact ⟨Or.inl rfl, rfl⟩ | exact ⟨Or.inr rfl, rfl⟩), rfl⟩, ?_⟩) | (refine fB S ?_ <;> refine KO_nil ⟨⟨by (first | exact True.intro | exact Or.inl rfl | exact Or.inr rfl | exact Or.inr (congrArg some (blkOf_elA _ _ _ _)) | exact ⟨Or.inl rfl, rfl⟩ | exact ⟨Or.inr rfl, rfl⟩), rfl⟩, ?_⟩) | (refine fS S rfl rfl ?_ <;> refine KO_nil ⟨⟨by (first | exact True.intro | exact Or.inl rfl | exact Or.inr rfl | exact Or.inr (congrArg some (blkOf_elA _ _ _ _)) | exact ⟨Or.inl rfl, rfl⟩ | exact ⟨Or.inr rfl, rfl⟩), rfl⟩, ?_⟩) | (refine fA ?_ <;> refine KO_nil ⟨⟨by (first | exact True.intro | exact Or.inl rfl | exact Or.inr rfl | exact Or.inr (congrArg some (blkOf_elA _ _ _ _)) | exact ⟨Or.inl rfl, rfl⟩ | exact ⟨Or.inr rfl, rfl⟩), rfl⟩, ?_⟩)); refine KX_cons ?_; (first | (refine lB S rfl rfl ?_ <;> refine KO_nil ⟨⟨by (first | exact True.intro | exact Or.inl rfl | exact Or.inr rfl | exact Or.inr (congrArg some (blkOf_elA _ _ _ _)) | exact ⟨Or.inl rfl, rfl⟩ | exact ⟨Or.inr rfl, rfl⟩), rfl⟩, ?_⟩) | (refine lES S rfl rfl ?_ <;> refine KO_nil ⟨⟨by (first | exact True.intro | exact Or.inl rfl | exact Or.inr rfl | exact Or.inr (congrArg some (blkOf_elA _ _ _ _)) | exact ⟨Or.inl rfl, rfl⟩ | exact ⟨Or.inr rfl, rfl⟩), rfl⟩, ?_⟩) | (refine lEB S ?_ <;> refine KO_nil ⟨⟨by (first | exact True.intro | exact Or.inl rfl | exact Or.inr rfl | exact Or.inr (congrArg some (blkOf_elA _ _ _ _)) | exact ⟨Or.inl rfl, rfl⟩ | exact ⟨Or.inr rfl, rfl⟩), rfl⟩, ?_⟩) | (refine lH S ?_ <;> refine KO_nil ⟨⟨by (first | exact True.intro | exact Or.inl rfl | exact Or.inr rfl | exact Or.inr (congrArg some (blkOf_elA _ _ _ _)) | exact ⟨Or.inl rfl, rfl⟩ | exact ⟨Or.inr rfl, rfl⟩), rfl⟩, ?_⟩)))
    ((refine KX_cons ?_; first | refine KO_fn rfl rfl rfl rfl rfl ((acrossAt_ok S.wf (tb l i) k m hs1 (by omega) (by omega)).mono ?_)); rintro va h ⟨hva, x⟩) <;> ((refine KO_nil ⟨⟨True.intro, ?_⟩, ?_⟩; (focus ((show keepsX _ _ _ _ _; simp only [keepsX]; (repeat' (first | exact True.intro | refine And.intro ?_ ?_)); all_goals (intro hw; first | exact True.intro | exact rfl | exact x.ext.old _ S.bB | exact x.ext.old _ (S.bR (by first | omega | grind)) | (refine x.ext.old _ (S.bX ?_ ?_ ?_); (first | assumption); (first | assumption); first | omega | grind) | (refine x.ext.old _ ?_; assumption) | exact absurd hw (by decide +kernel)))))); replace S := S.join0 x; clear x; refine KX_cons ?_; (first | (refine mv ?_ <;> refine KO_nil ⟨⟨by (first | exact True.intro | exact Or.inl rfl | exact Or.inr rfl | exact Or.inr (congrArg some (blkOf_elA _ _ _ _)) | exact ⟨Or.inl rfl, rfl⟩ | exact ⟨Or.inr rfl, rfl⟩), rfl⟩, ?_⟩)); refine KX_cons ?_; (first | (refine mv ?_ <;> refine KO_nil ⟨⟨by (first | exact True.intro | exact Or.inl rfl | exact Or.inr rfl | exact Or.inr (congrArg some (blkOf_elA _ _ _ _)) | exact ⟨Or.inl rfl, rfl⟩ | exact ⟨Or.inr rfl, rfl⟩), rfl⟩, ?_⟩)); refine KX_nil ?_)
    have hvb' := hvb.iff (both_iff w1 w2)
    have hva' := hva.iff (both_iff w1 w2)
    clear hvb hva
    all_goals (repeat' (first | refine K_seq ?_ | refine k_cond rfl ?_ | refine K_skip ?_ | refine K_exit ?_ | refine k_block ?_ | refine K_scope ?_ | (refine K_region (id := 7) ?_; refine mv ?_; (first | refine vl ?_ | refine fB S ?_ | refine fS S rfl rfl ?_ | refine fA ?_); (first | refine lB S rfl rfl ?_ | refine lES S rfl rfl ?_ | refine lEB S ?_ | refine lH S ?_); (first | refine ixB S ?_ | refine ixS S rfl rfl ?_); (first | refine lB S rfl rfl ?_ | refine lES S rfl rfl ?_ | refine lEB S ?_ | refine lH S ?_); (first | refine cT ?_ | refine cF ?_ | (refine cS ?_ ?_ <;> intro hc)) <;> (refine mv ?_; refine KO_nil ?_)) | (refine K_region (id := 8) ?_; refine mv ?_; (first | refine vl ?_ | refine fB S ?_ | refine fS S rfl rfl ?_ | refine fA ?_); (first | refine lB S rfl rfl ?_ | refine lES S rfl rfl ?_ | refine lEB S ?_ | refine lH S ?_); (first | refine ixB S ?_ | refine ixS S rfl rfl ?_); (first | refine lB S rfl rfl ?_ | refine lES S rfl rfl ?_ | refine lEB S ?_ | refine lH S ?_); refine mx ?_; refine mv ?_; refine KO_nil ?_) | (refine K_region (id := 9) ?_; refine mv ?_; refine mv ?_; refine mv ?_; skip)))
    all_goals (try simp only [Int.toNat_natCast] at *)
    · have fd : DistR l ya yb (max (ld.getD m default) 0) true := by
        rcases hdi.2 m (by omega) with ⟨g, -⟩ | ⟨e, g1, g2⟩
        · omega
        · exact .inl ⟨rfl, i, k, m, e, w1, w2, by omega, g2⟩
      rcases hvb' with ⟨e, hb⟩ | ⟨e, hb⟩ <;> cases e <;> rcases hva' with ⟨e, ha⟩ | ⟨e, ha⟩ <;> cases e
      all_goals
        (refine KO_fn rfl rfl rfl rfl rfl ((hallDistance_ok S.wf vo l2 (H2.ext w S.ext) ya yb ha0 hb0).mono ?_); rintro _ h ⟨_, _, rfl, hdd, x⟩) <;> (replace S := S.join0 x; clear x; obtain ⟨rfl, rfl⟩ := (sa.distR hdd).unique fd; refine mv ?_; refine vl ?_; refine vl ?_; refine mv ?_; refine mv ?_; refine KO_nil ?_)
        all_goals (repeat' (first | refine K_seq ?_ | refine k_cond rfl ?_ | refine K_skip ?_ | refine K_exit ?_ | refine k_block ?_ | refine K_scope ?_ | (refine K_region (id := 10) ?_; refine mv ?_; refine mv ?_; refine mv ?_; skip)))
        (refine KO_fn rfl rfl rfl rfl rfl ((hallBeside_ok S.wf vo l2 (H2.ext w S.ext) ya yb ha0 hb0).mono ?_); rintro _ h ⟨hv, x⟩) <;> (replace S := S.join0 x; clear x; (first | (have e9 := hv.T (sa.both_b.2 hb); subst e9) | (have e9 := hv.F (fun q => hb (sa.both_b.1 q)); subst e9)); refine mv ?_; (first | refine bT ?_ | refine vl ?_); refine mv ?_; (first | refine off ?_ | refine mv ?_); (first | refine off ?_ | refine mv ?_); (first | refine off ?_ | refine mv ?_); (first | (refine off ?_; (first | refine off ?_ | refine mv ?_); (first | refine off ?_ | (first | refine bT ?_ | refine vl ?_)); refine vl ?_; refine mv ?_; (first | refine off ?_ | refine mv ?_); (first | refine off ?_ | refine mv ?_); (first | refine off ?_ | refine mv ?_); (first | (refine off ?_; (first | refine off ?_ | refine mv ?_); (first | refine off ?_ | refine mv ?_); (first | refine off ?_ | refine mv ?_); (first | refine off ?_ | refine vl ?_); (first | refine off ?_ | (first | refine bT ?_ | refine vl ?_)); refine vl ?_; refine mv ?_; (first | refine off ?_ | refine mv ?_); (first | refine off ?_ | refine mv ?_); (first | refine off ?_ | (first | refine cT ?_ | refine cF ?_ | (refine cS ?_ ?_ <;> intro hc))) <;> (refine vl ?_; refine mv ?_; (first | refine off ?_ | refine mv ?_); (first | refine off ?_ | refine mv ?_); (first | refine off ?_ | (first | refine bT ?_ | refine vl ?_)); refine vl ?_; refine mv ?_; refine KO_nil ?_)) | skip)) | skip))
        (refine KO_fn rfl rfl rfl rfl rfl ((hallAcross_ok S.wf vo l2 (H2.ext w S.ext) ya yb ha0 hb0).mono ?_); rintro _ h ⟨hv, x⟩) <;> (replace S := S.join0 x; clear x; (first | (have e9 := hv.T (sa.both_a.2 ha); subst e9) | (have e9 := hv.F (fun q => ha (sa.both_a.1 q)); subst e9)); (first | refine off ?_ | refine mv ?_); (first | refine off ?_ | (first | refine bT ?_ | refine vl ?_)); refine vl ?_; refine mv ?_; (first | refine off ?_ | refine mv ?_); (first | refine off ?_ | refine mv ?_); (first | refine off ?_ | refine mv ?_); (first | (refine off ?_; (first | refine off ?_ | refine mv ?_); (first | refine off ?_ | refine mv ?_); (first | refine off ?_ | refine mv ?_); (first | refine off ?_ | refine vl ?_); (first | refine off ?_ | (first | refine bT ?_ | refine vl ?_)); refine vl ?_; refine mv ?_; (first | refine off ?_ | refine mv ?_); (first | refine off ?_ | refine mv ?_); (first | refine off ?_ | (first | refine cT ?_ | refine cF ?_ | (refine cS ?_ ?_ <;> intro hc))) <;> (refine vl ?_; refine mv ?_; (first | refine off ?_ | refine mv ?_); (first | refine off ?_ | refine mv ?_); (first | refine off ?_ | (first | refine bT ?_ | refine vl ?_)); refine vl ?_; refine mv ?_; refine KO_nil ?_)) | skip))
        (refine KO_fn rfl rfl rfl rfl rfl ((hallNear_ok S.wf vo l2 (H2.ext w S.ext) ya yb ha0 hb0).mono ?_); rintro _ h ⟨hv, x⟩) <;> (replace S := S.join0 x; clear x; (first | (have e9 := hv.T (sa.both_n.2 (.inl hb)); subst e9) | (have e9 := hv.T (sa.both_n.2 (.inr ha)); subst e9) | (have e9 := hv.F (fun q => (sa.both_n.1 q).elim hb ha); subst e9)); (first | refine off ?_ | refine mv ?_); (first | refine off ?_ | refine mv ?_); (first | refine off ?_ | refine mv ?_); (first | refine off ?_ | refine vl ?_); (first | refine off ?_ | (first | refine bT ?_ | refine vl ?_)); refine vl ?_; refine mv ?_; (first | refine off ?_ | refine mv ?_); (first | refine off ?_ | refine mv ?_); (first | refine off ?_ | (first | refine cT ?_ | refine cF ?_ | (refine cS ?_ ?_ <;> intro hc))) <;> (refine vl ?_; refine mv ?_; (first | refine off ?_ | refine mv ?_); (first | refine off ?_ | refine mv ?_); (first | refine off ?_ | (first | refine bT ?_ | refine vl ?_)); refine vl ?_; refine mv ?_; refine KO_nil ?_))
        all_goals (repeat' (first | refine K_seq ?_ | refine k_cond rfl ?_ | refine K_skip ?_ | refine K_exit ?_ | refine k_block ?_ | refine K_scope ?_))
        refine K_ret ⟨_, rfl, ?_⟩
        exact ⟨rfl, S.drop⟩

    · have fd : DistR l ya yb (max (ld.getD m default) 0) false := by
        refine .inr ⟨rfl, by omega, fun i' k' m' e' q1 q2 q3 => ?_⟩
        obtain ⟨rfl, rfl⟩ := w1.unique q1
        obtain ⟨-, rfl⟩ := w2.unique q2
        rcases hdi.2 m (by omega) with ⟨-, g⟩ | ⟨e, g1, g2⟩
        · exact g _ q3.1
        · omega
      rcases hvb' with ⟨e, hb⟩ | ⟨e, hb⟩ <;> cases e <;> rcases hva' with ⟨e, ha⟩ | ⟨e, ha⟩ <;> cases e
      all_goals
        (refine KO_fn rfl rfl rfl rfl rfl ((hallDistance_ok S.wf vo l2 (H2.ext w S.ext) ya yb ha0 hb0).mono ?_); rintro _ h ⟨_, _, rfl, hdd, x⟩) <;> (replace S := S.join0 x; clear x; obtain ⟨rfl, rfl⟩ := (sa.distR hdd).unique fd; refine mv ?_; refine vl ?_; refine vl ?_; refine mv ?_; refine mv ?_; refine KO_nil ?_)
        all_goals (repeat' (first | refine K_seq ?_ | refine k_cond rfl ?_ | refine K_skip ?_ | refine K_exit ?_ | refine k_block ?_ | refine K_scope ?_ | (refine K_region (id := 10) ?_; refine mv ?_; refine mv ?_; refine mv ?_; skip)))
        (refine KO_fn rfl rfl rfl rfl rfl ((hallBeside_ok S.wf vo l2 (H2.ext w S.ext) ya yb ha0 hb0).mono ?_); rintro _ h ⟨hv, x⟩) <;> (replace S := S.join0 x; clear x; (first | (have e9 := hv.T (sa.both_b.2 hb); subst e9) | (have e9 := hv.F (fun q => hb (sa.both_b.1 q)); subst e9)); refine mv ?_; (first | refine bT ?_ | refine vl ?_); refine mv ?_; (first | refine off ?_ | refine mv ?_); (first | refine off ?_ | refine mv ?_); (first | refine off ?_ | refine mv ?_); (first | (refine off ?_; (first | refine off ?_ | refine mv ?_); (first | refine off ?_ | (first | refine bT ?_ | refine vl ?_)); refine vl ?_; refine mv ?_; (first | refine off ?_ | refine mv ?_); (first | refine off ?_ | refine mv ?_); (first | refine off ?_ | refine mv ?_); (first | (refine off ?_; (first | refine off ?_ | refine mv ?_); (first | refine off ?_ | refine mv ?_); (first | refine off ?_ | refine mv ?_); (first | refine off ?_ | refine vl ?_); (first | refine off ?_ | (first | refine bT ?_ | refine vl ?_)); refine vl ?_; refine mv ?_; (first | refine off ?_ | refine mv ?_); (first | refine off ?_ | refine mv ?_); (first | refine off ?_ | (first | refine cT ?_ | refine cF ?_ | (refine cS ?_ ?_ <;> intro hc))) <;> (refine vl ?_; refine mv ?_; (first | refine off ?_ | refine mv ?_); (first | refine off ?_ | refine mv ?_); (first | refine off ?_ | (first | refine bT ?_ | refine vl ?_)); refine vl ?_; refine mv ?_; refine KO_nil ?_)) | skip)) | skip))
        (refine KO_fn rfl rfl rfl rfl rfl ((hallAcross_ok S.wf vo l2 (H2.ext w S.ext) ya yb ha0 hb0).mono ?_); rintro _ h ⟨hv, x⟩) <;> (replace S := S.join0 x; clear x; (first | (have e9 := hv.T (sa.both_a.2 ha); subst e9) | (have e9 := hv.F (fun q => ha (sa.both_a.1 q)); subst e9)); (first | refine off ?_ | refine mv ?_); (first | refine off ?_ | (first | refine bT ?_ | refine vl ?_)); refine vl ?_; refine mv ?_; (first | refine off ?_ | refine mv ?_); (first | refine off ?_ | refine mv ?_); (first | refine off ?_ | refine mv ?_); (first | (refine off ?_; (first | refine off ?_ | refine mv ?_); (first | refine off ?_ | refine mv ?_); (first | refine off ?_ | refine mv ?_); (first | refine off ?_ | refine vl ?_); (first | refine off ?_ | (first | refine bT ?_ | refine vl ?_)); refine vl ?_; refine mv ?_; (first | refine off ?_ | refine mv ?_); (first | refine off ?_ | refine mv ?_); (first | refine off ?_ | (first | refine cT ?_ | refine cF ?_ | (refine cS ?_ ?_ <;> intro hc))) <;> (refine vl ?_; refine mv ?_; (first | refine off ?_ | refine mv ?_); (first | refine off ?_ | refine mv ?_); (first | refine off ?_ | (first | refine bT ?_ | refine vl ?_)); refine vl ?_; refine mv ?_; refine KO_nil ?_)) | skip))
        (refine KO_fn rfl rfl rfl rfl rfl ((hallNear_ok S.wf vo l2 (H2.ext w S.ext) ya yb ha0 hb0).mono ?_); rintro _ h ⟨hv, x⟩) <;> (replace S := S.join0 x; clear x; (first | (have e9 := hv.T (sa.both_n.2 (.inl hb)); subst e9) | (have e9 := hv.T (sa.both_n.2 (.inr ha)); subst e9) | (have e9 := hv.F (fun q => (sa.both_n.1 q).elim hb ha); subst e9)); (first | refine off ?_ | refine mv ?_); (first | refine off ?_ | refine mv ?_); (first | refine off ?_ | refine mv ?_); (first | refine off ?_ | refine vl ?_); (first | refine off ?_ | (first | refine bT ?_ | refine vl ?_)); refine vl ?_; refine mv ?_; (first | refine off ?_ | refine mv ?_); (first | refine off ?_ | refine mv ?_); (first | refine off ?_ | (first | refine cT ?_ | refine cF ?_ | (refine cS ?_ ?_ <;> intro hc))) <;> (refine vl ?_; refine mv ?_; (first | refine off ?_ | refine mv ?_); (first | refine off ?_ | refine mv ?_); (first | refine off ?_ | (first | refine bT ?_ | refine vl ?_)); refine vl ?_; refine mv ?_; refine KO_nil ?_))
        all_goals (repeat' (first | refine K_seq ?_ | refine k_cond rfl ?_ | refine K_skip ?_ | refine K_exit ?_ | refine k_block ?_ | refine K_scope ?_))
        refine K_ret ⟨_, rfl, ?_⟩
        exact ⟨rfl, S.drop⟩

  · all_goals (repeat' (first | refine K_seq ?_ | refine k_cond rfl ?_ | refine K_skip ?_ | refine K_exit ?_ | refine k_block ?_ | refine K_scope ?_ | (refine K_region (id := 3) ?_; refine mv ?_; refine mv ?_; refine mv ?_; refine mv ?_; refine KO_nil ?_) | (refine K_region (id := 4) ?_; refine mv ?_; refine mv ?_; (first | refine off ?_ | refine mv ?_); refine vl ?_; refine mv ?_; (first | refine off ?_ | (first | refine vl ?_ | refine fB S ?_ | refine fS S rfl rfl ?_ | refine fA ?_)); (first | refine off ?_ | (first | refine lB S rfl rfl ?_ | refine lES S rfl rfl ?_ | refine lEB S ?_ | refine lH S ?_)); (first | refine off ?_ | (first | refine vl ?_ | refine fB S ?_ | refine fS S rfl rfl ?_ | refine fA ?_)); (first | refine off ?_ | (first | refine lB S rfl rfl ?_ | refine lES S rfl rfl ?_ | refine lEB S ?_ | refine lH S ?_)); (first | refine off ?_ | (first | refine cT ?_ | refine cF ?_ | (refine cS ?_ ?_ <;> intro hc))) <;> (refine vl ?_; refine KO_nil ?_)) | (refine K_region (id := 9) ?_; refine mv ?_; refine mv ?_; refine mv ?_; skip)))
    have fd : DistR l ya yb 0 false := .inr ⟨rfl, rfl, fun i' k' m' e' q1 q2 q3 => w2 _ _ q2⟩
    have hvb' : BoolIs (.bool false) (BothP besideP l ya yb) := .inr ⟨rfl, fun ⟨i', k', m', q1, q2, q3⟩ => w2 _ _ q2⟩
    have hva' : BoolIs (.bool false) (BothP acrossP l ya yb) := .inr ⟨rfl, fun ⟨i', k', m', q1, q2, q3⟩ => w2 _ _ q2⟩
    rcases hvb' with ⟨e, hb⟩ | ⟨e, hb⟩ <;> cases e <;> rcases hva' with ⟨e, ha⟩ | ⟨e, ha⟩ <;> cases e
    all_goals
      (refine KO_fn rfl rfl rfl rfl rfl ((hallDistance_ok S.wf vo l2 (H2.ext w S.ext) ya yb ha0 hb0).mono ?_); rintro _ h ⟨_, _, rfl, hdd, x⟩) <;> (replace S := S.join0 x; clear x; obtain ⟨rfl, rfl⟩ := (sa.distR hdd).unique fd; refine mv ?_; refine vl ?_; refine vl ?_; refine mv ?_; refine mv ?_; refine KO_nil ?_)
      all_goals (repeat' (first | refine K_seq ?_ | refine k_cond rfl ?_ | refine K_skip ?_ | refine K_exit ?_ | refine k_block ?_ | refine K_scope ?_ | (refine K_region (id := 10) ?_; refine mv ?_; refine mv ?_; refine mv ?_; skip)))
      (refine KO_fn rfl rfl rfl rfl rfl ((hallBeside_ok S.wf vo l2 (H2.ext w S.ext) ya yb ha0 hb0).mono ?_); rintro _ h ⟨hv, x⟩) <;> (replace S := S.join0 x; clear x; (first | (have e9 := hv.T (sa.both_b.2 hb); subst e9) | (have e9 := hv.F (fun q => hb (sa.both_b.1 q)); subst e9)); refine mv ?_; (first | refine bT ?_ | refine vl ?_); refine mv ?_; (first | refine off ?_ | refine mv ?_); (first | refine off ?_ | refine mv ?_); (first | refine off ?_ | refine mv ?_); (first | (refine off ?_; (first | refine off ?_ | refine mv ?_); (first | refine off ?_ | (first | refine bT ?_ | refine vl ?_)); refine vl ?_; refine mv ?_; (first | refine off ?_ | refine mv ?_); (first | refine off ?_ | refine mv ?_); (first | refine off ?_ | refine mv ?_); (first | (refine off ?_; (first | refine off ?_ | refine mv ?_); (first | refine off ?_ | refine mv ?_); (first | refine off ?_ | refine mv ?_); (first | refine off ?_ | refine vl ?_); (first | refine off ?_ | (first | refine bT ?_ | refine vl ?_)); refine vl ?_; refine mv ?_; (first | refine off ?_ | refine mv ?_); (first | refine off ?_ | refine mv ?_); (first | refine off ?_ | (first | refine cT ?_ | refine cF ?_ | (refine cS ?_ ?_ <;> intro hc))) <;> (refine vl ?_; refine mv ?_; (first | refine off ?_ | refine mv ?_); (first | refine off ?_ | refine mv ?_); (first | refine off ?_ | (first | refine bT ?_ | refine vl ?_)); refine vl ?_; refine mv ?_; refine KO_nil ?_)) | skip)) | skip))
      (refine KO_fn rfl rfl rfl rfl rfl ((hallAcross_ok S.wf vo l2 (H2.ext w S.ext) ya yb ha0 hb0).mono ?_); rintro _ h ⟨hv, x⟩) <;> (replace S := S.join0 x; clear x; (first | (have e9 := hv.T (sa.both_a.2 ha); subst e9) | (have e9 := hv.F (fun q => ha (sa.both_a.1 q)); subst e9)); (first | refine off ?_ | refine mv ?_); (first | refine off ?_ | (first | refine bT ?_ | refine vl ?_)); refine vl ?_; refine mv ?_; (first | refine off ?_ | refine mv ?_); (first | refine off ?_ | refine mv ?_); (first | refine off ?_ | refine mv ?_); (first | (refine off ?_; (first | refine off ?_ | refine mv ?_); (first | refine off ?_ | refine mv ?_); (first | refine off ?_ | refine mv ?_); (first | refine off ?_ | refine vl ?_); (first | refine off ?_ | (first | refine bT ?_ | refine vl ?_)); refine vl ?_; refine mv ?_; (first | refine off ?_ | refine mv ?_); (first | refine off ?_ | refine mv ?_); (first | refine off ?_ | (first | refine cT ?_ | refine cF ?_ | (refine cS ?_ ?_ <;> intro hc))) <;> (refine vl ?_; refine mv ?_; (first | refine off ?_ | refine mv ?_); (first | refine off ?_ | refine mv ?_); (first | refine off ?_ | (first | refine bT ?_ | refine vl ?_)); refine vl ?_; refine mv ?_; refine KO_nil ?_)) | skip))
      (refine KO_fn rfl rfl rfl rfl rfl ((hallNear_ok S.wf vo l2 (H2.ext w S.ext) ya yb ha0 hb0).mono ?_); rintro _ h ⟨hv, x⟩) <;> (replace S := S.join0 x; clear x; (first | (have e9 := hv.T (sa.both_n.2 (.inl hb)); subst e9) | (have e9 := hv.T (sa.both_n.2 (.inr ha)); subst e9) | (have e9 := hv.F (fun q => (sa.both_n.1 q).elim hb ha); subst e9)); (first | refine off ?_ | refine mv ?_); (first | refine off ?_ | refine mv ?_); (first | refine off ?_ | refine mv ?_); (first | refine off ?_ | refine vl ?_); (first | refine off ?_ | (first | refine bT ?_ | refine vl ?_)); refine vl ?_; refine mv ?_; (first | refine off ?_ | refine mv ?_); (first | refine off ?_ | refine mv ?_); (first | refine off ?_ | (first | refine cT ?_ | refine cF ?_ | (refine cS ?_ ?_ <;> intro hc))) <;> (refine vl ?_; refine mv ?_; (first | refine off ?_ | refine mv ?_); (first | refine off ?_ | refine mv ?_); (first | refine off ?_ | (first | refine bT ?_ | refine vl ?_)); refine vl ?_; refine mv ?_; refine KO_nil ?_))
      all_goals (repeat' (first | refine K_seq ?_ | refine k_cond rfl ?_ | refine K_skip ?_ | refine K_exit ?_ | refine k_block ?_ | refine K_scope ?_))
      refine K_ret ⟨_, rfl, ?_⟩
      exact ⟨rfl, S.drop⟩

  · all_goals (repeat' (first | refine K_seq ?_ | refine k_cond rfl ?_ | refine K_skip ?_ | refine K_exit ?_ | refine k_block ?_ | refine K_scope ?_ | (refine K_region (id := 3) ?_; refine mv ?_; refine mv ?_; refine mv ?_; refine mv ?_; refine KO_nil ?_) | (refine K_region (id := 4) ?_; refine mv ?_; refine mv ?_; (first | refine off ?_ | refine mv ?_); refine vl ?_; refine mv ?_; (first | refine off ?_ | (first | refine vl ?_ | refine fB S ?_ | refine fS S rfl rfl ?_ | refine fA ?_)); (first | refine off ?_ | (first | refine lB S rfl rfl ?_ | refine lES S rfl rfl ?_ | refine lEB S ?_ | refine lH S ?_)); (first | refine off ?_ | (first | refine vl ?_ | refine fB S ?_ | refine fS S rfl rfl ?_ | refine fA ?_)); (first | refine off ?_ | (first | refine lB S rfl rfl ?_ | refine lES S rfl rfl ?_ | refine lEB S ?_ | refine lH S ?_)); (first | refine off ?_ | (first | refine cT ?_ | refine cF ?_ | (refine cS ?_ ?_ <;> intro hc))) <;> (refine vl ?_; refine KO_nil ?_)) | (refine K_region (id := 9) ?_; refine mv ?_; refine mv ?_; refine mv ?_; skip)))
    have fd : DistR l ya yb 0 false := .inr ⟨rfl, rfl, fun i' k' m' e' q1 q2 q3 => w1 _ _ q1⟩
    have hvb' : BoolIs (.bool false) (BothP besideP l ya yb) := .inr ⟨rfl, fun ⟨i', k', m', q1, q2, q3⟩ => w1 _ _ q1⟩
    have hva' : BoolIs (.bool false) (BothP acrossP l ya yb) := .inr ⟨rfl, fun ⟨i', k', m', q1, q2, q3⟩ => w1 _ _ q1⟩
    rcases hvb' with ⟨e, hb⟩ | ⟨e, hb⟩ <;> cases e <;> rcases hva' with ⟨e, ha⟩ | ⟨e, ha⟩ <;> cases e
    all_goals
      (refine KO_fn rfl rfl rfl rfl rfl ((hallDistance_ok S.wf vo l2 (H2.ext w S.ext) ya yb ha0 hb0).mono ?_); rintro _ h ⟨_, _, rfl, hdd, x⟩) <;> (replace S := S.join0 x; clear x; obtain ⟨rfl, rfl⟩ := (sa.distR hdd).unique fd; refine mv ?_; refine vl ?_; refine vl ?_; refine mv ?_; refine mv ?_; refine KO_nil ?_)
      all_goals (repeat' (first | refine K_seq ?_ | refine k_cond rfl ?_ | refine K_skip ?_ | refine K_exit ?_ | refine k_block ?_ | refine K_scope ?_ | (refine K_region (id := 10) ?_; refine mv ?_; refine mv ?_; refine mv ?_; skip)))
      (refine KO_fn rfl rfl rfl rfl rfl ((hallBeside_ok S.wf vo l2 (H2.ext w S.ext) ya yb ha0 hb0).mono ?_); rintro _ h ⟨hv, x⟩) <;> (replace S := S.join0 x; clear x; (first | (have e9 := hv.T (sa.both_b.2 hb); subst e9) | (have e9 := hv.F (fun q => hb (sa.both_b.1 q)); subst e9)); refine mv ?_; (first | refine bT ?_ | refine vl ?_); refine mv ?_; (first | refine off ?_ | refine mv ?_); (first | refine off ?_ | refine mv ?_); (first | refine off ?_ | refine mv ?_); (first | (refine off ?_; (first | refine off ?_ | refine mv ?_); (first | refine off ?_ | (first | refine bT ?_ | refine vl ?_)); refine vl ?_; refine mv ?_; (first | refine off ?_ | refine mv ?_); (first | refine off ?_ | refine mv ?_); (first | refine off ?_ | refine mv ?_); (first | (refine off ?_; (first | refine off ?_ | refine mv ?_); (first | refine off ?_ | refine mv ?_); (first | refine off ?_ | refine mv ?_); (first | refine off ?_ | refine vl ?_); (first | refine off ?_ | (first | refine bT ?_ | refine vl ?_)); refine vl ?_; refine mv ?_; (first | refine off ?_ | refine mv ?_); (first | refine off ?_ | refine mv ?_); (first | refine off ?_ | (first | refine cT ?_ | refine cF ?_ | (refine cS ?_ ?_ <;> intro hc))) <;> (refine vl ?_; refine mv ?_; (first | refine off ?_ | refine mv ?_); (first | refine off ?_ | refine mv ?_); (first | refine off ?_ | (first | refine bT ?_ | refine vl ?_)); refine vl ?_; refine mv ?_; refine KO_nil ?_)) | skip)) | skip))
      (refine KO_fn rfl rfl rfl rfl rfl ((hallAcross_ok S.wf vo l2 (H2.ext w S.ext) ya yb ha0 hb0).mono ?_); rintro _ h ⟨hv, x⟩) <;> (replace S := S.join0 x; clear x; (first | (have e9 := hv.T (sa.both_a.2 ha); subst e9) | (have e9 := hv.F (fun q => ha (sa.both_a.1 q)); subst e9)); (first | refine off ?_ | refine mv ?_); (first | refine off ?_ | (first | refine bT ?_ | refine vl ?_)); refine vl ?_; refine mv ?_; (first | refine off ?_ | refine mv ?_); (first | refine off ?_ | refine mv ?_); (first | refine off ?_ | refine mv ?_); (first | (refine off ?_; (first | refine off ?_ | refine mv ?_); (first | refine off ?_ | refine mv ?_); (first | refine off ?_ | refine mv ?_); (first | refine off ?_ | refine vl ?_); (first | refine off ?_ | (first | refine bT ?_ | refine vl ?_)); refine vl ?_; refine mv ?_; (first | refine off ?_ | refine mv ?_); (first | refine off ?_ | refine mv ?_); (first | refine off ?_ | (first | refine cT ?_ | refine cF ?_ | (refine cS ?_ ?_ <;> intro hc))) <;> (refine vl ?_; refine mv ?_; (first | refine off ?_ | refine mv ?_); (first | refine off ?_ | refine mv ?_); (first | refine off ?_ | (first | refine bT ?_ | refine vl ?_)); refine vl ?_; refine mv ?_; refine KO_nil ?_)) | skip))
      (refine KO_fn rfl rfl rfl rfl rfl ((hallNear_ok S.wf vo l2 (H2.ext w S.ext) ya yb ha0 hb0).mono ?_); rintro _ h ⟨hv, x⟩) <;> (replace S := S.join0 x; clear x; (first | (have e9 := hv.T (sa.both_n.2 (.inl hb)); subst e9) | (have e9 := hv.T (sa.both_n.2 (.inr ha)); subst e9) | (have e9 := hv.F (fun q => (sa.both_n.1 q).elim hb ha); subst e9)); (first | refine off ?_ | refine mv ?_); (first | refine off ?_ | refine mv ?_); (first | refine off ?_ | refine mv ?_); (first | refine off ?_ | refine vl ?_); (first | refine off ?_ | (first | refine bT ?_ | refine vl ?_)); refine vl ?_; refine mv ?_; (first | refine off ?_ | refine mv ?_); (first | refine off ?_ | refine mv ?_); (first | refine off ?_ | (first | refine cT ?_ | refine cF ?_ | (refine cS ?_ ?_ <;> intro hc))) <;> (refine vl ?_; refine mv ?_; (first | refine off ?_ | refine mv ?_); (first | refine off ?_ | refine mv ?_); (first | refine off ?_ | (first | refine bT ?_ | refine vl ?_)); refine vl ?_; refine mv ?_; refine KO_nil ?_))
      all_goals (repeat' (first | refine K_seq ?_ | refine k_cond rfl ?_ | refine K_skip ?_ | refine K_exit ?_ | refine k_block ?_ | refine K_scope ?_))
      refine K_ret ⟨_, rfl, ?_⟩
      exact ⟨rfl, S.drop⟩

  · all_goals (repeat' (first | refine K_seq ?_ | refine k_cond rfl ?_ | refine K_skip ?_ | refine K_exit ?_ | refine k_block ?_ | refine K_scope ?_ | (refine K_region (id := 3) ?_; refine mv ?_; refine mv ?_; refine mv ?_; refine mv ?_; refine KO_nil ?_) | (refine K_region (id := 4) ?_; refine mv ?_; refine mv ?_; (first | refine off ?_ | refine mv ?_); refine vl ?_; refine mv ?_; (first | refine off ?_ | (first | refine vl ?_ | refine fB S ?_ | refine fS S rfl rfl ?_ | refine fA ?_)); (first | refine off ?_ | (first | refine lB S rfl rfl ?_ | refine lES S rfl rfl ?_ | refine lEB S ?_ | refine lH S ?_)); (first | refine off ?_ | (first | refine vl ?_ | refine fB S ?_ | refine fS S rfl rfl ?_ | refine fA ?_)); (first | refine off ?_ | (first | refine lB S rfl rfl ?_ | refine lES S rfl rfl ?_ | refine lEB S ?_ | refine lH S ?_)); (first | refine off ?_ | (first | refine cT ?_ | refine cF ?_ | (refine cS ?_ ?_ <;> intro hc))) <;> (refine vl ?_; refine KO_nil ?_)) | (refine K_region (id := 9) ?_; refine mv ?_; refine mv ?_; refine mv ?_; skip)))
    have fd : DistR l ya yb 0 false := .inr ⟨rfl, rfl, fun i' k' m' e' q1 q2 q3 => w1 _ _ q1⟩
    have hvb' : BoolIs (.bool false) (BothP besideP l ya yb) := .inr ⟨rfl, fun ⟨i', k', m', q1, q2, q3⟩ => w1 _ _ q1⟩
    have hva' : BoolIs (.bool false) (BothP acrossP l ya yb) := .inr ⟨rfl, fun ⟨i', k', m', q1, q2, q3⟩ => w1 _ _ q1⟩
    rcases hvb' with ⟨e, hb⟩ | ⟨e, hb⟩ <;> cases e <;> rcases hva' with ⟨e, ha⟩ | ⟨e, ha⟩ <;> cases e
    all_goals
      (refine KO_fn rfl rfl rfl rfl rfl ((hallDistance_ok S.wf vo l2 (H2.ext w S.ext) ya yb ha0 hb0).mono ?_); rintro _ h ⟨_, _, rfl, hdd, x⟩) <;> (replace S := S.join0 x; clear x; obtain ⟨rfl, rfl⟩ := (sa.distR hdd).unique fd; refine mv ?_; refine vl ?_; refine vl ?_; refine mv ?_; refine mv ?_; refine KO_nil ?_)
      all_goals (repeat' (first | refine K_seq ?_ | refine k_cond rfl ?_ | refine K_skip ?_ | refine K_exit ?_ | refine k_block ?_ | refine K_scope ?_ | (refine K_region (id := 10) ?_; refine mv ?_; refine mv ?_; refine mv ?_; skip)))
      (refine KO_fn rfl rfl rfl rfl rfl ((hallBeside_ok S.wf vo l2 (H2.ext w S.ext) ya yb ha0 hb0).mono ?_); rintro _ h ⟨hv, x⟩) <;> (replace S := S.join0 x; clear x; (first | (have e9 := hv.T (sa.both_b.2 hb); subst e9) | (have e9 := hv.F (fun q => hb (sa.both_b.1 q)); subst e9)); refine mv ?_; (first | refine bT ?_ | refine vl ?_); refine mv ?_; (first | refine off ?_ | refine mv ?_); (first | refine off ?_ | refine mv ?_); (first | refine off ?_ | refine mv ?_); (first | (refine off ?_; (first | refine off ?_ | refine mv ?_); (first | refine off ?_ | (first | refine bT ?_ | refine vl ?_)); refine vl ?_; refine mv ?_; (first | refine off ?_ | refine mv ?_); (first | refine off ?_ | refine mv ?_); (first | refine off ?_ | refine mv ?_); (first | (refine off ?_; (first | refine off ?_ | refine mv ?_); (first | refine off ?_ | refine mv ?_); (first | refine off ?_ | refine mv ?_); (first | refine off ?_ | refine vl ?_); (first | refine off ?_ | (first | refine bT ?_ | refine vl ?_)); refine vl ?_; refine mv ?_; (first | refine off ?_ | refine mv ?_); (first | refine off ?_ | refine mv ?_); (first | refine off ?_ | (first | refine cT ?_ | refine cF ?_ | (refine cS ?_ ?_ <;> intro hc))) <;> (refine vl ?_; refine mv ?_; (first | refine off ?_ | refine mv ?_); (first | refine off ?_ | refine mv ?_); (first | refine off ?_ | (first | refine bT ?_ | refine vl ?_)); refine vl ?_; refine mv ?_; refine KO_nil ?_)) | skip)) | skip))
      (refine KO_fn rfl rfl rfl rfl rfl ((hallAcross_ok S.wf vo l2 (H2.ext w S.ext) ya yb ha0 hb0).mono ?_); rintro _ h ⟨hv, x⟩) <;> (replace S := S.join0 x; clear x; (first | (have e9 := hv.T (sa.both_a.2 ha); subst e9) | (have e9 := hv.F (fun q => ha (sa.both_a.1 q)); subst e9)); (first | refine off ?_ | refine mv ?_); (first | refine off ?_ | (first | refine bT ?_ | refine vl ?_)); refine vl ?_; refine mv ?_; (first | refine off ?_ | refine mv ?_); (first | refine off ?_ | refine mv ?_); (first | refine off ?_ | refine mv ?_); (first | (refine off ?_; (first | refine off ?_ | refine mv ?_); (first | refine off ?_ | refine mv ?_); (first | refine off ?_ | refine mv ?_); (first | refine off ?_ | refine vl ?_); (first | refine off ?_ | (first | refine bT ?_ | refine vl ?_)); refine vl ?_; refine mv ?_; (first | refine off ?_ | refine mv ?_); (first | refine off ?_ | refine mv ?_); (first | refine off ?_ | (first | refine cT ?_ | refine cF ?_ | (refine cS ?_ ?_ <;> intro hc))) <;> (refine vl ?_; refine mv ?_; (first | refine off ?_ | refine mv ?_); (first | refine off ?_ | refine mv ?_); (first | refine off ?_ | (first | refine bT ?_ | refine vl ?_)); refine vl ?_; refine mv ?_; refine KO_nil ?_)) | skip))
      (refine KO_fn rfl rfl rfl rfl rfl ((hallNear_ok S.wf vo l2 (H2.ext w S.ext) ya yb ha0 hb0).mono ?_); rintro _ h ⟨hv, x⟩) <;> (replace S := S.join0 x; clear x; (first | (have e9 := hv.T (sa.both_n.2 (.inl hb)); subst e9) | (have e9 := hv.T (sa.both_n.2 (.inr ha)); subst e9) | (have e9 := hv.F (fun q => (sa.both_n.1 q).elim hb ha); subst e9)); (first | refine off ?_ | refine mv ?_); (first | refine off ?_ | refine mv ?_); (first | refine off ?_ | refine mv ?_); (first | refine off ?_ | refine vl ?_); (first | refine off ?_ | (first | refine bT ?_ | refine vl ?_)); refine vl ?_; refine mv ?_; (first | refine off ?_ | refine mv ?_); (first | refine off ?_ | refine mv ?_); (first | refine off ?_ | (first | refine cT ?_ | refine cF ?_ | (refine cS ?_ ?_ <;> intro hc))) <;> (refine vl ?_; refine mv ?_; (first | refine off ?_ | refine mv ?_); (first | refine off ?_ | refine mv ?_); (first | refine off ?_ | (first | refine bT ?_ | refine vl ?_)); refine vl ?_; refine mv ?_; refine KO_nil ?_))
      all_goals (repeat' (first | refine K_seq ?_ | refine k_cond rfl ?_ | refine K_skip ?_ | refine K_exit ?_ | refine k_block ?_ | refine K_scope ?_))
      refine K_ret ⟨_, rfl, ?_⟩
      exact ⟨rfl, S.drop⟩

end Go.Proofs.Xx

/-
  HallSeats: one seat.
-/
namespace Go.Proofs.Xx
open Go Go.Proofs
set_option linter.unusedSimpArgs false
set_option linter.unusedVariables false
set_option maxRecDepth 100000
set_option maxHeartbeats 8000000

theorem lawSeat_ok {h0 : AH} (w : WfH h0) (vo v vs vq : Value) (l2 l : List Tab) (out : List (Nat × Nat)) (qs : List Int) (ya : Int) (H2 : HallR h0 vo l2) (H : HallR h0 v l) (sa : SameAll l2 l) (hs : RdL h0 vs 2 eSt out) (ao : AllR l out) (ha0 : ya ≤ 9223372036854775807) (hq : RdL h0 vq 1 eI qs) (hql : qs.length ≤ 1000)
    (hqm : ∀ j, j < qs.length → qs.getD j default ≤ 9223372036854775807) : Fn Tryz.prog Xh 77 [vo, v, vs, .int .i64 ya, vq] h0 (fun r h' => r = .bool true ∧ Hs h0 h' []) := by
  have S := Hs.start w
  have hr := H.rd
  have hl := H.len
  refine Fn_K rfl Tryz.func77 rfl rfl ?_
  all_goals (repeat' (first | refine K_seq ?_ | refine k_cond rfl ?_ | refine K_skip ?_ | refine K_exit ?_ | refine k_block ?_ | refine K_scope ?_ | (refine K_region (id := 0) ?_; refine mv ?_; refine KO_nil ?_) | (refine K_region (id := 1) ?_; refine mv ?_; refine mv ?_)))
  (refine KO_fn rfl rfl rfl rfl rfl ((known_ok S.wf vs l out hs ao H.len ya).mono ?_); rintro _ h ⟨_, _, _, rfl, ⟨rfl, i, k, rfl, rfl, w1⟩ | ⟨rfl, rfl, rfl, w1⟩, x⟩) <;> (replace S := S.join0 x; clear x; refine mv ?_; refine vl ?_; refine vl ?_; (refine al S ?_; clear S; intro b h S); (first | (refine sB S rfl rfl ?_; clear S; intro h S) | (refine sE S rfl rfl ?_; clear S; intro h S)); refine mv ?_; refine KO_nil ?_)
  all_goals (all_goals (repeat' (first | refine K_seq ?_ | refine k_cond rfl ?_ | refine K_skip ?_ | refine K_exit ?_ | refine k_block ?_ | refine K_scope ?_ | (refine K_region (id := 2) ?_; refine mv ?_; refine mv ?_))))
  all_goals (obtain ⟨bs, hnm⟩ : ∃ x, x = b := ⟨_, rfl⟩; subst hnm)
  · have W : WhereR l ya i k true := .inl ⟨rfl, i, k, rfl, rfl, w1⟩
    have hi := w1.2.1
    have hs1 := w1.sz
    have t1 := tsize_le (tb l i)
    have k1 := w1.2.2.1
    have a1 := w1.2.2.2
    have b1 := sumT_le l i
    obtain ⟨n, hn⟩ := Int.eq_ofNat_of_zero_le t1.1
    have hnn : (tsize (tb l i)).toNat = n := by omega
    (refine KO_fn rfl rfl rfl rfl rfl ((where_ok S.wf vo l2 (H2.ext w S.ext) ya ha0).mono ?_); rintro _ h ⟨_, _, _, rfl, w3, x⟩) <;> (replace S := S.join0 x; clear x; obtain ⟨rfl, rfl, rfl⟩ := (sa.whereR w3).unique W; refine mv ?_; refine vl ?_; refine vl ?_; refine vl ?_; refine mv ?_; refine mv ?_; refine mv ?_; refine KO_nil ?_)
    all_goals (repeat' (first | refine K_seq ?_ | refine k_cond rfl ?_ | refine K_skip ?_ | refine K_exit ?_ | refine k_block ?_ | refine K_scope ?_ | (refine K_region (id := 3) ?_; refine mv ?_; (first | refine vl ?_ | refine fB S ?_ | refine fS S rfl rfl ?_ | refine fA ?_); (first | refine lB S rfl rfl ?_ | refine lES S rfl rfl ?_ | refine lEB S ?_ | refine lH S ?_); (first | refine cT ?_ | refine cF ?_ | (refine cS ?_ ?_ <;> intro hc)) <;> (refine mv ?_; (first | refine off ?_ | refine mv ?_); (first | refine off ?_ | (first | refine vl ?_ | refine fB S ?_ | refine fS S rfl rfl ?_ | refine fA ?_)); (first | refine off ?_ | (first | refine lB S rfl rfl ?_ | refine lES S rfl rfl ?_ | refine lEB S ?_ | refine lH S ?_)); (first | refine off ?_ | (first | refine cT ?_ | refine cF ?_ | (refine cS ?_ ?_ <;> intro hc))) <;> (refine vl ?_; refine mv ?_; (first | refine off ?_ | refine mv ?_); (first | refine off ?_ | refine mv ?_); (first | refine off ?_ | refine vl ?_); refine vl ?_; refine KO_nil ?_))) | (refine K_region (id := 4) ?_; refine mv ?_; refine KO_nil ?_) | (refine K_region (id := 5) ?_; refine mv ?_; refine mv ?_; refine KO_nil ?_) | (refine K_region (id := 6) ?_; refine mv ?_; refine mv ?_; refine KO_nil ?_) | (refine K_region (id := 7) ?_; refine mv ?_; refine KO_nil ?_) | (refine K_region (id := 16) ?_; refine mv ?_; (first | refine lnB S ?_ | refine lnS S rfl rfl ?_); refine mv ?_; refine KO_nil ?_)))
    refine K_drawX (id := 8) [(7, (1, 2)), (11, (0, 1))] [some (0), some (blkS v)] ?_; refine KX_cons ?_; (first | (refine mv ?_ <;> refine KO_nil ⟨⟨by (first | exact True.intro | exact Or.inl rfl | exact Or.inr rfl | exact Or.inr (congrArg some (blkOf_elA _ _ _ _)) | exact ⟨Or.inl rfl, rfl⟩ | exact ⟨Or.inr rfl, rfl⟩), rfl⟩, ?_⟩)); refine KX_cons ?_; (first | (refine mv ?_ <;> refine KO_nil ⟨⟨by (first | exact True.intro | exact Or.inl rfl | exact Or.inr rfl | exact Or.inr (congrArg some (blkOf_elA _ _ _ _)) | exact ⟨Or.inl rfl, rfl⟩ | exact ⟨Or.inr rfl, rfl⟩), rfl⟩, ?_⟩)); refine KX_cons ?_; (first | (refine ixB S ?_ <;> refine KO_nil ⟨⟨by (first | exact True.intro | exact Or.inl rfl | exact Or.inr rfl | exact Or.inr (congrArg some (blkOf_elA _ _ _ _)) | exact ⟨Or.inl rfl, rfl⟩ | exact ⟨Or.inr rfl, rfl⟩), rfl⟩, ?_⟩) | (refine ixS S rfl rfl ?_ <;> refine KO_nil ⟨⟨by (first | exact True.intro | exact Or.inl rfl | exact Or.inr rfl | exact Or.inr (congrArg some (blkOf_elA _ _ _ _)) | exact ⟨Or.inl rfl, rfl⟩ | exact ⟨Or.inr rfl, rfl⟩), rfl⟩, ?_⟩)); refine KX_cons ?_; (first | (refine lB S rfl rfl ?_ <;> refine KO_nil ⟨⟨by (first | exact True.intro | exact Or.inl rfl | exact Or.inr rfl | exact Or.inr (congrArg some (blkOf_elA _ _ _ _)) | exact ⟨Or.inl rfl, rfl⟩ | exact ⟨Or.inr rfl, rfl⟩), rfl⟩, ?_⟩) | (refine lES S rfl rfl ?_ <;> refine KO_nil ⟨⟨by (first | exact True.intro | exact Or.inl rfl | exact Or.inr rfl | exact Or.inr (congrArg some (blkOf_elA _ _ _ _)) | exact ⟨Or.inl rfl, rfl⟩ | exact ⟨Or.inr rfl, rfl⟩), rfl⟩, ?_⟩) | (refine lEB S ?_ <;> refine KO_nil ⟨⟨by (first | exact True.intro | exact Or.inl rfl | exact Or.inr rfl | exact Or.inr (congrArg some (blkOf_elA _ _ _ _)) | exact ⟨Or.inl rfl, rfl⟩ | exact ⟨Or.inr rfl, rfl⟩), rfl⟩, ?_⟩) | (refine lH S ?_ <;> refine KO_nil ⟨⟨by (first | exact True.intro | exact Or.inl rfl | exact Or.inr rfl | exact Or.inr (congrArg some (blkOf_elA _ _ _ _)) | exact ⟨Or.inl rfl, rfl⟩ | exact ⟨Or.inr rfl, rfl⟩), rfl⟩, ?_⟩))
    ((refine KX_cons ?_; first | refine KO_fn rfl rfl rfl rfl rfl ((refLevels_ok S.wf (tb l i) n hs1 hn).mono ?_)); rintro vL h ⟨lL, hL, x⟩) <;> ((refine KO_nil ⟨⟨True.intro, ?_⟩, ?_⟩; (focus ((show keepsX _ _ _ _ _; simp only [keepsX]; (repeat' (first | exact True.intro | refine And.intro ?_ ?_)); all_goals (intro hw; first | exact True.intro | exact rfl | exact x.ext.old _ S.bB | exact x.ext.old _ (S.bR (by first | omega | grind)) | exact x.ext.old _ (S.bX (by assumption) (by assumption) (by first | omega | grind)) | (refine x.ext.old _ ?_; assumption) | exact absurd hw (by decide +kernel)))))); replace S := S.join1 x; clear x; have hLl := hL.1; have hdm : (lvl n lL).length = lL.length := List.length_map ..; (refine KX_set [some (blkS vL), some (blkS v)] (And.intro trivial (And.intro rfl trivial)) ?_); refine KX_cons ?_; (first | (refine mv ?_ <;> refine KO_nil ⟨⟨by (first | exact True.intro | exact Or.inl rfl | exact Or.inr rfl | exact Or.inr (congrArg some (blkOf_elA _ _ _ _)) | exact ⟨Or.inl rfl, rfl⟩ | exact ⟨Or.inr rfl, rfl⟩), rfl⟩, ?_⟩)); refine KX_cons ?_; (first | (refine ixB S ?_ <;> refine KO_nil ⟨⟨by (first | exact True.intro | exact Or.inl rfl | exact Or.inr rfl | exact Or.inr (congrArg some (blkOf_elA _ _ _ _)) | exact ⟨Or.inl rfl, rfl⟩ | exact ⟨Or.inr rfl, rfl⟩), rfl⟩, ?_⟩) | (refine ixS S rfl rfl ?_ <;> refine KO_nil ⟨⟨by (first | exact True.intro | exact Or.inl rfl | exact Or.inr rfl | exact Or.inr (congrArg some (blkOf_elA _ _ _ _)) | exact ⟨Or.inl rfl, rfl⟩ | exact ⟨Or.inr rfl, rfl⟩), rfl⟩, ?_⟩)); refine KX_cons ?_; (first | (refine lB S rfl rfl ?_ <;> refine KO_nil ⟨⟨by (first | exact True.intro | exact Or.inl rfl | exact Or.inr rfl | exact Or.inr (congrArg some (blkOf_elA _ _ _ _)) | exact ⟨Or.inl rfl, rfl⟩ | exact ⟨Or.inr rfl, rfl⟩), rfl⟩, ?_⟩) | (refine lES S rfl rfl ?_ <;> refine KO_nil ⟨⟨by (first | exact True.intro | exact Or.inl rfl | exact Or.inr rfl | exact Or.inr (congrArg some (blkOf_elA _ _ _ _)) | exact ⟨Or.inl rfl, rfl⟩ | exact ⟨Or.inr rfl, rfl⟩), rfl⟩, ?_⟩) | (refine lEB S ?_ <;> refine KO_nil ⟨⟨by (first | exact True.intro | exact Or.inl rfl | exact Or.inr rfl | exact Or.inr (congrArg some (blkOf_elA _ _ _ _)) | exact ⟨Or.inl rfl, rfl⟩ | exact ⟨Or.inr rfl, rfl⟩), rfl⟩, ?_⟩) | (refine lH S ?_ <;> refine KO_nil ⟨⟨by (first | exact True.intro | exact Or.inl rfl | exact Or.inr rfl | exact Or.inr (congrArg some (blkOf_elA _ _ _ _)) | exact ⟨Or.inl rfl, rfl⟩ | exact ⟨Or.inr rfl, rfl⟩), rfl⟩, ?_⟩)); refine KX_cons ?_; (first | (refine mv ?_ <;> refine KO_nil ⟨⟨by (first | exact True.intro | exact Or.inl rfl | exact Or.inr rfl | exact Or.inr (congrArg some (blkOf_elA _ _ _ _)) | exact ⟨Or.inl rfl, rfl⟩ | exact ⟨Or.inr rfl, rfl⟩), rfl⟩, ?_⟩)); refine KX_cons ?_; (first | (refine mv ?_ <;> refine KO_nil ⟨⟨by (first | exact True.intro | exact Or.inl rfl | exact Or.inr rfl | exact Or.inr (congrArg some (blkOf_elA _ _ _ _)) | exact ⟨Or.inl rfl, rfl⟩ | exact ⟨Or.inr rfl, rfl⟩), rfl⟩, ?_⟩)); refine KX_cons ?_; (first | (refine ixB S ?_ <;> refine KO_nil ⟨⟨by (first | exact True.intro | exact Or.inl rfl | exact Or.inr rfl | exact Or.inr (congrArg some (blkOf_elA _ _ _ _)) | exact ⟨Or.inl rfl, rfl⟩ | exact ⟨Or.inr rfl, rfl⟩), rfl⟩, ?_⟩) | (refine ixS S rfl rfl ?_ <;> refine KO_nil ⟨⟨by (first | exact True.intro | exact Or.inl rfl | exact Or.inr rfl | exact Or.inr (congrArg some (blkOf_elA _ _ _ _)) | exact ⟨Or.inl rfl, rfl⟩ | exact ⟨Or.inr rfl, rfl⟩), rfl⟩, ?_⟩)); refine KX_cons ?_; (first | (refine lB S rfl rfl ?_ <;> refine KO_nil ⟨⟨by (first | exact True.intro | exact Or.inl rfl | exact Or.inr rfl | exact Or.inr (congrArg some (blkOf_elA _ _ _ _)) | exact ⟨Or.inl rfl, rfl⟩ | exact ⟨Or.inr rfl, rfl⟩), rfl⟩, ?_⟩) | (refine lES S rfl rfl ?_ <;> refine KO_nil ⟨⟨by (first | exact True.intro | exact Or.inl rfl | exact Or.inr rfl | exact Or.inr (congrArg some (blkOf_elA _ _ _ _)) | exact ⟨Or.inl rfl, rfl⟩ | exact ⟨Or.inr rfl, rfl⟩), rfl⟩, ?_⟩) | (refine lEB S ?_ <;> refine KO_nil ⟨⟨by (first | exact True.intro | exact Or.inl rfl | exact Or.inr rfl | exact Or.inr (congrArg some (blkOf_elA _ _ _ _)) | exact ⟨Or.inl rfl, rfl⟩ | exact ⟨Or.inr rfl, rfl⟩), rfl⟩, ?_⟩) | (refine lH S ?_ <;> refine KO_nil ⟨⟨by (first | exact True.intro | exact Or.inl rfl | exact Or.inr rfl | exact Or.inr (congrArg some (blkOf_elA _ _ _ _)) | exact ⟨Or.inl rfl, rfl⟩ | exact ⟨Or.inr rfl, rfl⟩), rfl⟩, ?_⟩)); refine KX_cons ?_; (first | (refine mv ?_ <;> refine KO_nil ⟨⟨by (first | exact True.intro | exact Or.inl rfl | exact Or.inr rfl | exact Or.inr (congrArg some (blkOf_elA _ _ _ _)) | exact ⟨Or.inl rfl, rfl⟩ | exact ⟨Or.inr rfl, rfl⟩), rfl⟩, ?_⟩)))
    ((refine KX_cons ?_; first | refine KO_fn rfl rfl rfl rfl rfl ((isOpen_ok S.wf (tb l i) ((H.ext w S.ext).tab i hi) k).mono ?_)); rintro vop h ⟨hop, x⟩) <;> ((refine KO_nil ⟨⟨True.intro, ?_⟩, ?_⟩; (focus ((show keepsX _ _ _ _ _; simp only [keepsX]; (repeat' (first | exact True.intro | refine And.intro ?_ ?_)); all_goals (intro hw; first | exact True.intro | exact rfl | exact x.ext.old _ S.bB | exact x.ext.old _ (S.bR (by first | omega | grind)) | exact x.ext.old _ (S.bX (by assumption) (by assumption) (by first | omega | grind)) | (refine x.ext.old _ ?_; assumption) | exact absurd hw (by decide +kernel)))))); replace S := S.join0 x; clear x; refine KX_cons ?_; (first | (refine mv ?_ <;> refine KO_nil ⟨⟨by (first | exact True.intro | exact Or.inl rfl | exact Or.inr rfl | exact Or.inr (congrArg some (blkOf_elA _ _ _ _)) | exact ⟨Or.inl rfl, rfl⟩ | exact ⟨Or.inr rfl, rfl⟩), rfl⟩, ?_⟩)); refine KX_cons ?_; (first | (refine mv ?_ <;> refine KO_nil ⟨⟨by (first | exact True.intro | exact Or.inl rfl | exact Or.inr rfl | exact Or.inr (congrArg some (blkOf_elA _ _ _ _)) | exact ⟨Or.inl rfl, rfl⟩ | exact ⟨Or.inr rfl, rfl⟩), rfl⟩, ?_⟩)); refine KX_nil ?_)
    all_goals (repeat' (first | refine K_seq ?_ | refine k_cond rfl ?_ | refine K_skip ?_ | refine K_exit ?_ | refine k_block ?_ | refine K_scope ?_ | (refine K_region (id := 9) ?_; refine mv ?_; refine mv ?_; (first | refine ixB S ?_ | refine ixS S rfl rfl ?_); (first | refine lB S rfl rfl ?_ | refine lES S rfl rfl ?_ | refine lEB S ?_ | refine lH S ?_); refine mv ?_)))
    (refine KO_fn rfl rfl rfl rfl rfl ((refDist_ok S.wf (tb l i) k n hs1 hn (by omega)).mono ?_); rintro vD h ⟨lD, hD, x⟩) <;> (replace S := S.join1 x; clear x; have hDl := hD.1; refine mv ?_; refine KO_nil ?_)
    all_goals (repeat' (first | refine K_seq ?_ | refine k_cond rfl ?_ | refine K_skip ?_ | refine K_exit ?_ | refine k_block ?_ | refine K_scope ?_ | (refine K_region (id := 10) ?_; refine mv ?_; (first | refine lnB S ?_ | refine lnS S rfl rfl ?_); refine mv ?_; refine KO_nil ?_)))
    have levF : LevR l ya ((lvl n lL).getD k default) := .inl ⟨i, k, lL, w1, by rw [hnn]; exact hL, by rw [hnn]⟩
    have opF : BoolIs vop (OpenR l ya) := hop.iff ⟨fun q => ⟨i, k, w1, q⟩, fun ⟨i', k', q1, q2⟩ => by obtain ⟨rfl, rfl⟩ := w1.unique q1; exact q2⟩
    have nbF : NbR l ya (nbUp (nearP (tb l i)) k ya n) := .inl ⟨i, k, w1, by rw [hnn]⟩
    have nbl := nbUp_len (nearP (tb l i)) k ya n
    have hd : ∀ i' k', WhereI l ya i' k' → DistL (nearP (tb l i')) (tsize (tb l i')).toNat k' lD := fun i' k' q => by
      obtain ⟨rfl, rfl⟩ := w1.unique q
      rw [hnn]; exact hD
    replace S := (S.only .here).nilS (e := 3) (z := 1) (enc := eI)
    refine k_loop (σ := Nat × Value) (fun (m, vn) h' => Hs h0 h' [.sl vn 3 1 eI (nbUp (nearP (tb l i)) k ya m), .sl vD 3 1 eI lD] ∧ m ≤ n) (fun (m, vn) => n - m) (fun (m, vn) => [(0, vo), (1, v), (2, vs), (3, .int .i64 ya), (4, vq), (13, .int .i64 i), (14, .int .i64 k), (16, .int .i64 ((lvl n lL).getD k default)), (17, vop), (18, vn), (19, vD), (72, vD), (73, .int .i64 lD.length), (74, .int .i64 m)]) (0, .slice none 0 0) (by repeat (first | exact Ks.le_nil _ | refine Ks.le_cons rfl ?_ | refine Ks.le_int ?_)) ?_ ?_
    · exact ⟨S, Nat.zero_le _⟩
    clear S
    rintro ⟨m, vn⟩ h ⟨S, hm1⟩
    have hnl := nbUp_len (nearP (tb l i)) k ya m
    all_goals (repeat' (first | refine K_seq ?_ | refine k_cond rfl ?_ | refine K_skip ?_ | refine K_exit ?_ | refine k_block ?_ | refine K_scope ?_ | (refine K_region (id := 11) ?_; (first | refine cT ?_ | refine cF ?_ | (refine cS ?_ ?_ <;> intro hc)) <;> (refine KO_nil ?_)) | (refine K_region (id := 12) ?_; refine mv ?_; refine mv ?_; refine KO_nil ?_) | (refine K_region (id := 13) ?_; refine mv ?_; refine mv ?_; (first | refine ixB S ?_ | refine ixS S rfl rfl ?_); (first | refine lB S rfl rfl ?_ | refine lES S rfl rfl ?_ | refine lEB S ?_ | refine lH S ?_); refine mv ?_; refine mv ?_) | (refine K_region (id := 16) ?_; refine mv ?_; (first | refine lnB S ?_ | refine lnS S rfl rfl ?_); refine mv ?_; refine KO_nil ?_)))
    · (try simp only [Int.toNat_natCast] at *)
      (refine KO_fn rfl rfl rfl rfl rfl ((nearAt_ok S.wf (tb l i) k m hs1 (by omega) (by omega)).mono ?_); rintro _ h ⟨⟨rfl, hq2⟩ | ⟨rfl, hq2⟩, x⟩) <;> (replace S := S.join0 x; clear x; refine KO_nil ?_)
      · all_goals (repeat' (first | refine K_seq ?_ | refine k_cond rfl ?_ | refine K_skip ?_ | refine K_exit ?_ | refine k_block ?_ | refine K_scope ?_ | (refine K_region (id := 14) ?_; refine mv ?_; refine mv ?_; refine mv ?_; (first | refine sb ?_ | refine vl ?_); refine mv ?_; (first | refine ad ?_ | refine vl ?_); (refine one 1 S ?_; clear S; intro u h S)) | (refine K_region (id := 15) ?_; (first | refine ad ?_ | refine vl ?_); refine mv ?_; refine KO_nil ?_)))
        refine app (y0 := (ya - k + m)) S rfl rfl ?_; clear S; intro v h S; refine mv ?_; refine KO_nil ?_
        all_goals (repeat' (first | refine K_seq ?_ | refine k_cond rfl ?_ | refine K_skip ?_ | refine K_exit ?_ | refine k_block ?_ | refine K_scope ?_ | (refine K_region (id := 15) ?_; (first | refine ad ?_ | refine vl ?_); refine mv ?_; refine KO_nil ?_)))
        refine ⟨(m + 1, v), ?_, ?_, (by repeat (first | exact Ks.le_nil _ | refine Ks.le_cons rfl ?_ | refine Ks.le_int ?_))⟩
        · show n - (m + 1) < n - m; omega
        · refine ⟨?_, by omega⟩
          have e : nbUp (nearP (tb l i)) k ya (m + 1) = nbUp (nearP (tb l i)) k ya m ++ [ya - k + m] := by rw [nbUp, if_pos hq2]
          rw [e]; exact S
      · all_goals (repeat' (first | refine K_seq ?_ | refine k_cond rfl ?_ | refine K_skip ?_ | refine K_exit ?_ | refine k_block ?_ | refine K_scope ?_ | (refine K_region (id := 15) ?_; (first | refine ad ?_ | refine vl ?_); refine mv ?_; refine KO_nil ?_)))
        refine ⟨(m + 1, vn), ?_, ?_, (by repeat (first | exact Ks.le_nil _ | refine Ks.le_cons rfl ?_ | refine Ks.le_int ?_))⟩
        · show n - (m + 1) < n - m; omega
        · refine ⟨?_, by omega⟩
          have e : nbUp (nearP (tb l i)) k ya (m + 1) = nbUp (nearP (tb l i)) k ya m := by rw [nbUp, if_neg hq2]
          rw [e]; exact S
    have hmn : m = n := by omega
    subst hmn
    refine k_loop (σ := Nat) (fun j h' => Hs h0 h' [.sl vn 3 1 eI (nbUp (nearP (tb l i)) k ya m), .sl vD 3 1 eI lD] ∧ j ≤ qs.length) (fun j => qs.length - j) (fun j => [(0, vo), (1, v), (2, vs), (3, .int .i64 ya), (16, .int .i64 ((lvl m lL).getD k default)), (17, vop), (18, vn), (19, vD), (93, vq), (94, .int .i64 qs.length), (95, .int .i64 j)]) 0 (by repeat (first | exact Ks.le_nil _ | refine Ks.le_cons rfl ?_ | refine Ks.le_int ?_)) ?_ ?_
    · exact ⟨S, Nat.zero_le _⟩
    clear S
    rintro j h ⟨S, hj⟩
    all_goals (repeat' (first | refine K_seq ?_ | refine k_cond rfl ?_ | refine K_skip ?_ | refine K_exit ?_ | refine k_block ?_ | refine K_scope ?_ | (refine K_region (id := 17) ?_; (first | refine cT ?_ | refine cF ?_ | (refine cS ?_ ?_ <;> intro hc)) <;> (refine KO_nil ?_)) | (refine K_region (id := 18) ?_; (first | refine ixB S ?_ | refine ixS S rfl rfl ?_); (first | refine lB S rfl rfl ?_ | refine lES S rfl rfl ?_ | refine lEB S ?_ | refine lH S ?_); refine mv ?_; refine KO_nil ?_) | (refine K_region (id := 19) ?_; refine mv ?_; refine mv ?_; refine mv ?_; refine mv ?_; refine mv ?_; refine mv ?_; skip) | (refine K_region (id := 22) ?_; refine mv ?_; refine mv ?_)))
    · (try simp only [Int.toNat_natCast] at *)
      have hj2 : j < qs.length := by omega
      (refine KO_fn rfl rfl rfl rfl rfl ((lawPair_ok S.wf vo v vs vD l2 l out lD ya (qs.getD j default) (H2.ext w S.ext) (H.ext w S.ext) sa (hs.ext w S.ext) ao ha0 (hqm j hj2) (Rd.of_sl S (.there .here)) hd).mono ?_); rintro _ h ⟨rfl, x⟩) <;> (replace S := S.join0 x; clear x; refine vl ?_; refine KO_nil ?_)
      all_goals (repeat' (first | refine K_seq ?_ | refine k_cond rfl ?_ | refine K_skip ?_ | refine K_exit ?_ | refine k_block ?_ | refine K_scope ?_ | (refine K_region (id := 20) ?_; refine mv ?_; refine KO_nil ?_) | (refine K_region (id := 21) ?_; (first | refine ad ?_ | refine vl ?_); refine mv ?_; refine KO_nil ?_)))
      refine ⟨j + 1, ?_, ?_, (by repeat (first | exact Ks.le_nil _ | refine Ks.le_cons rfl ?_ | refine Ks.le_int ?_))⟩
      · show qs.length - (j + 1) < qs.length - j; omega
      · exact ⟨S, by omega⟩
    rcases opF with ⟨e, ho⟩ | ⟨e, ho⟩ <;> cases e
    all_goals
      (refine KO_fn rfl rfl rfl rfl rfl ((hallLevel_ok S.wf vo l2 (H2.ext w S.ext) ya ha0).mono ?_); rintro _ h ⟨d, rfl, hlv, x⟩) <;> (replace S := S.join0 x; clear x; have e9 := (sa.levR hlv).unique levF; subst e9; refine mv ?_; (first | refine cT ?_ | refine cF ?_ | (refine cS ?_ ?_ <;> intro hc)) <;> (refine mv ?_; (first | refine off ?_ | refine mv ?_); (first | refine off ?_ | refine mv ?_); (first | (refine off ?_; (first | refine off ?_ | refine mv ?_); (first | refine off ?_ | (first | refine bT ?_ | refine vl ?_)); refine vl ?_; refine mv ?_; (first | refine off ?_ | refine mv ?_); (first | refine off ?_ | refine mv ?_); (first | (refine off ?_; (first | refine off ?_ | refine mv ?_); (first | (refine off ?_; refine vl ?_; refine mv ?_; refine KO_nil ?_) | skip)) | skip)) | skip)))
      (refine KO_fn rfl rfl rfl rfl rfl ((hallOpen_ok S.wf vo l2 (H2.ext w S.ext) ya ha0).mono ?_); rintro _ h ⟨hv, x⟩) <;> (replace S := S.join0 x; clear x; (first | (have e9 := hv.T (sa.openR.2 ho); subst e9) | (have e9 := hv.F (fun q => ho (sa.openR.1 q)); subst e9)); (first | refine off ?_ | refine mv ?_); (first | refine off ?_ | (first | refine bT ?_ | refine vl ?_)); refine vl ?_; refine mv ?_; (first | refine off ?_ | refine mv ?_); (first | refine off ?_ | refine mv ?_); (first | (refine off ?_; (first | refine off ?_ | refine mv ?_); (first | (refine off ?_; refine vl ?_; refine mv ?_; refine KO_nil ?_) | skip)) | skip))
      (refine KO_fn rfl rfl rfl rfl rfl ((hallNeighbours_ok S.wf vo l2 (H2.ext w S.ext) ya ha0).mono ?_); rintro vN2 h ⟨on, hn2, hnl, x⟩) <;> (replace S := S.join1 x; clear x; have e9 := (sa.nbR hn2).unique nbF; subst e9; (first | refine off ?_ | refine mv ?_); (first | (refine off ?_; refine vl ?_; refine mv ?_; refine KO_nil ?_) | skip))
      (refine KO_fn rfl rfl rfl rfl rfl ((equal_ok S.wf vN2 vn _ _ (Rd.of_sl S .here) (Rd.of_sl S (.there .here)) (by omega) (by omega)).mono ?_); rintro _ h ⟨⟨rfl, hq9⟩ | ⟨rfl, hq9⟩, x⟩) <;> (replace S := S.join0 x; clear x; refine vl ?_; refine mv ?_; refine KO_nil ?_)
      all_goals (repeat' (first | refine K_seq ?_ | refine k_cond rfl ?_ | refine K_skip ?_ | refine K_exit ?_ | refine k_block ?_ | refine K_scope ?_))
      all_goals (refine K_ret ⟨_, rfl, ?_⟩)
      · exact ⟨rfl, S.drop⟩
      · exact absurd rfl hq9

  · have W : WhereR l ya 0 0 false := .inr ⟨rfl, rfl, rfl, w1⟩
    (refine KO_fn rfl rfl rfl rfl rfl ((where_ok S.wf vo l2 (H2.ext w S.ext) ya ha0).mono ?_); rintro _ h ⟨_, _, _, rfl, w3, x⟩) <;> (replace S := S.join0 x; clear x; obtain ⟨rfl, rfl, rfl⟩ := (sa.whereR w3).unique W; refine mv ?_; refine vl ?_; refine vl ?_; refine vl ?_; refine mv ?_; refine mv ?_; refine mv ?_; refine KO_nil ?_)
    all_goals (repeat' (first | refine K_seq ?_ | refine k_cond rfl ?_ | refine K_skip ?_ | refine K_exit ?_ | refine k_block ?_ | refine K_scope ?_ | (refine K_region (id := 3) ?_; refine mv ?_; (first | refine vl ?_ | refine fB S ?_ | refine fS S rfl rfl ?_ | refine fA ?_); (first | refine lB S rfl rfl ?_ | refine lES S rfl rfl ?_ | refine lEB S ?_ | refine lH S ?_); (first | refine cT ?_ | refine cF ?_ | (refine cS ?_ ?_ <;> intro hc)) <;> (refine mv ?_; (first | refine off ?_ | refine mv ?_); (first | refine off ?_ | (first | refine vl ?_ | refine fB S ?_ | refine fS S rfl rfl ?_ | refine fA ?_)); (first | refine off ?_ | (first | refine lB S rfl rfl ?_ | refine lES S rfl rfl ?_ | refine lEB S ?_ | refine lH S ?_)); (first | refine off ?_ | (first | refine cT ?_ | refine cF ?_ | (refine cS ?_ ?_ <;> intro hc))) <;> (refine vl ?_; refine mv ?_; (first | refine off ?_ | refine mv ?_); (first | refine off ?_ | refine mv ?_); (first | refine off ?_ | refine vl ?_); refine vl ?_; refine KO_nil ?_))) | (refine K_region (id := 5) ?_; refine mv ?_; refine mv ?_; refine KO_nil ?_) | (refine K_region (id := 6) ?_; refine mv ?_; refine mv ?_; refine KO_nil ?_) | (refine K_region (id := 7) ?_; refine mv ?_; refine KO_nil ?_) | (refine K_region (id := 16) ?_; refine mv ?_; (first | refine lnB S ?_ | refine lnS S rfl rfl ?_); refine mv ?_; refine KO_nil ?_)))
    have levF : LevR l ya 0 := .inr ⟨rfl, w1⟩
    have opF : BoolIs (.bool false) (OpenR l ya) := .inr ⟨rfl, fun ⟨i', k', q1, q2⟩ => w1 _ _ q1⟩
    have nbF : NbR l ya [] := .inr ⟨rfl, w1⟩
    have nbl : ([] : List Int).length ≤ 1000 := by simp
    have hd : ∀ i' k', WhereI l ya i' k' → DistL (nearP (tb l i')) (tsize (tb l i')).toNat k' [] := fun i' k' q => absurd q (w1 _ _)
    replace S := (S.drop.nilS (e := 3) (z := 1) (enc := eI)).nilS (e := 3) (z := 1) (enc := eI)
    refine k_loop (σ := Nat) (fun j h' => Hs h0 h' [.sl (.slice none 0 0) 3 1 eI ([] : List Int), .sl (.slice none 0 0) 3 1 eI ([] : List Int)] ∧ j ≤ qs.length) (fun j => qs.length - j) (fun j => [(0, vo), (1, v), (2, vs), (3, .int .i64 ya), (16, .int .i64 0), (17, (.bool false)), (18, (.slice none 0 0)), (19, (.slice none 0 0)), (93, vq), (94, .int .i64 qs.length), (95, .int .i64 j)]) 0 (by repeat (first | exact Ks.le_nil _ | refine Ks.le_cons rfl ?_ | refine Ks.le_int ?_)) ?_ ?_
    · exact ⟨S, Nat.zero_le _⟩
    clear S
    rintro j h ⟨S, hj⟩
    all_goals (repeat' (first | refine K_seq ?_ | refine k_cond rfl ?_ | refine K_skip ?_ | refine K_exit ?_ | refine k_block ?_ | refine K_scope ?_ | (refine K_region (id := 17) ?_; (first | refine cT ?_ | refine cF ?_ | (refine cS ?_ ?_ <;> intro hc)) <;> (refine KO_nil ?_)) | (refine K_region (id := 18) ?_; (first | refine ixB S ?_ | refine ixS S rfl rfl ?_); (first | refine lB S rfl rfl ?_ | refine lES S rfl rfl ?_ | refine lEB S ?_ | refine lH S ?_); refine mv ?_; refine KO_nil ?_) | (refine K_region (id := 19) ?_; refine mv ?_; refine mv ?_; refine mv ?_; refine mv ?_; refine mv ?_; refine mv ?_; skip) | (refine K_region (id := 22) ?_; refine mv ?_; refine mv ?_)))
    · (try simp only [Int.toNat_natCast] at *)
      have hj2 : j < qs.length := by omega
      (refine KO_fn rfl rfl rfl rfl rfl ((lawPair_ok S.wf vo v vs (.slice none 0 0) l2 l out ([] : List Int) ya (qs.getD j default) (H2.ext w S.ext) (H.ext w S.ext) sa (hs.ext w S.ext) ao ha0 (hqm j hj2) (Rd.of_sl S (.there .here)) hd).mono ?_); rintro _ h ⟨rfl, x⟩) <;> (replace S := S.join0 x; clear x; refine vl ?_; refine KO_nil ?_)
      all_goals (repeat' (first | refine K_seq ?_ | refine k_cond rfl ?_ | refine K_skip ?_ | refine K_exit ?_ | refine k_block ?_ | refine K_scope ?_ | (refine K_region (id := 20) ?_; refine mv ?_; refine KO_nil ?_) | (refine K_region (id := 21) ?_; (first | refine ad ?_ | refine vl ?_); refine mv ?_; refine KO_nil ?_)))
      refine ⟨j + 1, ?_, ?_, (by repeat (first | exact Ks.le_nil _ | refine Ks.le_cons rfl ?_ | refine Ks.le_int ?_))⟩
      · show qs.length - (j + 1) < qs.length - j; omega
      · exact ⟨S, by omega⟩
    rcases opF with ⟨e, ho⟩ | ⟨e, ho⟩ <;> cases e
    all_goals
      (refine KO_fn rfl rfl rfl rfl rfl ((hallLevel_ok S.wf vo l2 (H2.ext w S.ext) ya ha0).mono ?_); rintro _ h ⟨d, rfl, hlv, x⟩) <;> (replace S := S.join0 x; clear x; have e9 := (sa.levR hlv).unique levF; subst e9; refine mv ?_; (first | refine cT ?_ | refine cF ?_ | (refine cS ?_ ?_ <;> intro hc)) <;> (refine mv ?_; (first | refine off ?_ | refine mv ?_); (first | refine off ?_ | refine mv ?_); (first | (refine off ?_; (first | refine off ?_ | refine mv ?_); (first | refine off ?_ | (first | refine bT ?_ | refine vl ?_)); refine vl ?_; refine mv ?_; (first | refine off ?_ | refine mv ?_); (first | refine off ?_ | refine mv ?_); (first | (refine off ?_; (first | refine off ?_ | refine mv ?_); (first | (refine off ?_; refine vl ?_; refine mv ?_; refine KO_nil ?_) | skip)) | skip)) | skip)))
      (refine KO_fn rfl rfl rfl rfl rfl ((hallOpen_ok S.wf vo l2 (H2.ext w S.ext) ya ha0).mono ?_); rintro _ h ⟨hv, x⟩) <;> (replace S := S.join0 x; clear x; (first | (have e9 := hv.T (sa.openR.2 ho); subst e9) | (have e9 := hv.F (fun q => ho (sa.openR.1 q)); subst e9)); (first | refine off ?_ | refine mv ?_); (first | refine off ?_ | (first | refine bT ?_ | refine vl ?_)); refine vl ?_; refine mv ?_; (first | refine off ?_ | refine mv ?_); (first | refine off ?_ | refine mv ?_); (first | (refine off ?_; (first | refine off ?_ | refine mv ?_); (first | (refine off ?_; refine vl ?_; refine mv ?_; refine KO_nil ?_) | skip)) | skip))
      (refine KO_fn rfl rfl rfl rfl rfl ((hallNeighbours_ok S.wf vo l2 (H2.ext w S.ext) ya ha0).mono ?_); rintro vN2 h ⟨on, hn2, hnl, x⟩) <;> (replace S := S.join1 x; clear x; have e9 := (sa.nbR hn2).unique nbF; subst e9; (first | refine off ?_ | refine mv ?_); (first | (refine off ?_; refine vl ?_; refine mv ?_; refine KO_nil ?_) | skip))
      (refine KO_fn rfl rfl rfl rfl rfl ((equal_ok S.wf vN2 (.slice none 0 0) _ _ (Rd.of_sl S .here) (Rd.of_sl S (.there .here)) (by omega) (by omega)).mono ?_); rintro _ h ⟨⟨rfl, hq9⟩ | ⟨rfl, hq9⟩, x⟩) <;> (replace S := S.join0 x; clear x; refine vl ?_; refine mv ?_; refine KO_nil ?_)
      all_goals (repeat' (first | refine K_seq ?_ | refine k_cond rfl ?_ | refine K_skip ?_ | refine K_exit ?_ | refine k_block ?_ | refine K_scope ?_))
      all_goals (refine K_ret ⟨_, rfl, ?_⟩)
      · exact ⟨rfl, S.drop⟩
      · exact absurd rfl hq9

end Go.Proofs.Xx

/-
  HallSeats: its contract, for the row.
-/
namespace Go.Proofs.Xx
open Go Go.Proofs
set_option linter.unusedSimpArgs false
set_option linter.unusedVariables false
set_option maxRecDepth 100000
set_option maxHeartbeats 8000000

section
variable {P : Program} {X : Extern} {sz : Nat} {L : Ks} {h h0 : AH} {rs : List Rs} {ops : Array Oper} {os : List Oper} {o : Oper} {R : Ks → AH → Prop}
/-- A slice of some elements, of one's own. -/
theorem bsn {ty : TypeId} {n : Nat} {ps : Array (Nat × Operand)} {vs : List (Nat × Value)} {c : List Value} {e : TypeId} {α : Type} {z : Nat} {d : Tmp} (enc : α → List Value) (l : List α) (S : Hs h0 h rs) (w : ∀ u h', Hs h0 h' (.sl u e z enc l :: rs) → KO P X sz ops os (L.put d u) h' R) (ho : o.op = .buildSlice ty n ps := by exact rfl) (hg : guardA ops L.tree o.guard = some true := by exact rfl)
    (hx : kParts L ps.toList = some vs := by exact rfl) (hv : aBuildSlice P ty n vs h = some (.slice (some ⟨h.next, 0, none⟩) n n, h.add (.cells c e none false)) := by exact rfl) (hl : l.length = n := by exact rfl) (hc : c = l.flatMap enc := by exact rfl) (hz : c.length = l.length * z := by exact rfl) (hdst : o.dst = some d := by exact rfl) (hds : Nat.blt d sz = true := by exact rfl) : KO P X sz ops (o :: os) L h R := by
  subst hl
  exact KO_bslice ho hg hx hv (by simp only [putK, hdst, hds]) (w _ _ ((S.add c e).asSl (z := z) enc l hc hz))
end

theorem lawSeats_ok {h0 : AH} (w : WfH h0) (v : Value) (l : List Tab) (H : HallR h0 v l) (ya yb : Int) (ha : ya ≤ 9223372036854775807) (hb : yb ≤ 9223372036854775807) : Fn Tryz.prog Xh 24 [v, .int .i64 ya, .int .i64 yb] h0 (fun r h' => r = .bool true ∧ Hs h0 h' []) := by
  have S := Hs.start w
  have hl := H.len
  refine Fn_K rfl Tryz.func24 rfl rfl ?_
  all_goals (repeat' (first | refine K_seq ?_ | refine k_cond rfl ?_ | refine K_skip ?_ | refine K_exit ?_ | refine k_block ?_ | refine K_scope ?_ | (refine K_region (id := 0) ?_; refine mv ?_; refine KO_nil ?_) | (refine K_region (id := 1) ?_; refine mv ?_)))
  (refine KO_fn rfl rfl rfl rfl rfl ((copy_ok S.wf v l H.rd H.len H.tab).mono ?_); rintro u g ⟨l2, sa, Hu, x⟩) <;> (replace S := S.join0 x; clear x; refine mv ?_; refine KO_nil ?_)
  have T := S
  have w1 := S.wf
  have H1 := H.ext w S.ext
  have hl2 := sa.1
  replace S := Hs.start w1
  all_goals (repeat' (first | refine K_seq ?_ | refine k_cond rfl ?_ | refine K_skip ?_ | refine K_exit ?_ | refine k_block ?_ | refine K_scope ?_ | (refine K_region (id := 2) ?_; refine mv ?_; refine KO_nil ?_) | (refine K_region (id := 3) ?_; refine mv ?_)))
  (refine KO_fn rfl rfl rfl rfl rfl ((refValid_ok S.wf v l H1).mono ?_); rintro _ h ⟨⟨rfl, hv⟩ | ⟨rfl, hv⟩, x⟩) <;> (replace S := S.join0 x; clear x; refine KO_nil ?_)
  · all_goals (repeat' (first | refine K_seq ?_ | refine k_cond rfl ?_ | refine K_skip ?_ | refine K_exit ?_ | refine k_block ?_ | refine K_scope ?_ | (refine K_region (id := 4) ?_; refine mv ?_) | (refine K_region (id := 5) ?_; refine mv ?_; refine mv ?_; refine mv ?_; (first | refine lnB S ?_ | refine lnS S rfl rfl ?_))))
    (refine KO_fn rfl rfl rfl rfl rfl ((refSeats_ok S.wf v l (H1.ext w1 S.ext)).mono ?_); rintro vs h ⟨out, ho, x⟩) <;> (replace S := S.join1 x; clear x; refine mv ?_; refine KO_nil ?_)
    have ao : AllR l out := .inl ⟨hv, ho⟩
    have hol := ao.len hl
    all_goals (repeat' (first | refine K_seq ?_ | refine k_cond rfl ?_ | refine K_skip ?_ | refine K_exit ?_ | refine k_block ?_ | refine K_scope ?_ | (refine K_region (id := 5) ?_; refine mv ?_; refine mv ?_; refine mv ?_; (first | refine lnB S ?_ | refine lnS S rfl rfl ?_))))
    refine bsn (z := 1) eI [ya, yb, -1, (out.length : Int)] S ?_; clear S; intro vq h S; (refine mv ?_; refine KO_nil ?_)
    all_goals (repeat' (first | refine K_seq ?_ | refine k_cond rfl ?_ | refine K_skip ?_ | refine K_exit ?_ | refine k_block ?_ | refine K_scope ?_ | (refine K_region (id := 6) ?_; refine mv ?_; (first | refine lnB S ?_ | refine lnS S rfl rfl ?_); refine mn ?_; refine mv ?_; refine KO_nil ?_)))
    refine k_loop (σ := Nat × List Int × Value) (fun (x, qs, vq) h' => Hs g h' [.sl vq 3 1 eI qs, .sl vs 143 2 eSt out] ∧ (x : Int) ≤ min (out.length : Int) 30 ∧ qs.length = 4 + x ∧ ∀ j, j < qs.length → qs.getD j default ≤ 9223372036854775807) (fun (x, qs, vq) => 30 - x) (fun (x, qs, vq) => [(0, v), (7, u), (8, vs), (9, vq), (26, .int .i64 (min (out.length : Int) 30)), (27, .int .i64 x)]) (0, [ya, yb, -1, (out.length : Int)], vq) (by repeat (first | exact Ks.le_nil _ | refine Ks.le_cons rfl ?_ | refine Ks.le_int ?_)) ?_ ?_
    · refine ⟨S, by omega, rfl, fun j hj => ?_⟩
      match j, hj with
      | 0, _ => exact ha
      | 1, _ => exact hb
      | 2, _ => show (-1 : Int) ≤ _; omega
      | 3, _ => show (out.length : Int) ≤ _; omega
    clear S
    rintro ⟨x, qs, vq⟩ h ⟨S, h1, h2, h3⟩
    all_goals (repeat' (first | refine K_seq ?_ | refine k_cond rfl ?_ | refine K_skip ?_ | refine K_exit ?_ | refine k_block ?_ | refine K_scope ?_ | (refine K_region (id := 7) ?_; (first | refine cT ?_ | refine cF ?_ | (refine cS ?_ ?_ <;> intro hc)) <;> (refine KO_nil ?_)) | (refine K_region (id := 8) ?_; refine mv ?_; refine mv ?_; refine KO_nil ?_) | (refine K_region (id := 9) ?_; refine mv ?_; refine mv ?_; (refine one 1 S ?_; clear S; intro u h S)) | (refine K_region (id := 11) ?_; refine mv ?_; (first | refine lnB S ?_ | refine lnS S rfl rfl ?_); refine mv ?_; refine KO_nil ?_)))
    · refine app (y0 := (x : Int)) S rfl rfl ?_; clear S; intro v h S; refine mv ?_; refine KO_nil ?_
      all_goals (repeat' (first | refine K_seq ?_ | refine k_cond rfl ?_ | refine K_skip ?_ | refine K_exit ?_ | refine k_block ?_ | refine K_scope ?_ | (refine K_region (id := 10) ?_; (first | refine ad ?_ | refine vl ?_); refine mv ?_; refine KO_nil ?_)))
      refine ⟨(x + 1, qs ++ [(x : Int)], v), ?_, ?_, (by repeat (first | exact Ks.le_nil _ | refine Ks.le_cons rfl ?_ | refine Ks.le_int ?_))⟩
      · show 30 - (x + 1) < 30 - x; omega
      · refine ⟨S, by omega, by simp; omega, fun j hj => ?_⟩
        rcases Nat.lt_or_ge j qs.length with q | q
        · have e : (qs ++ [(x : Int)]).getD j default = qs.getD j default := by simp only [List.getD_eq_getElem?_getD, List.getElem?_append_left q]
          show (qs ++ [(x : Int)]).getD j default ≤ _
          rw [e]; exact h3 j q
        · have hj' : j < qs.length + 1 := by simpa using hj
          obtain rfl : j = qs.length := by omega
          have e : (qs ++ [(x : Int)]).getD qs.length default = (x : Int) := by simp only [List.getD_eq_getElem?_getD, List.getElem?_append_right (Nat.le_refl _), Nat.sub_self]; rfl
          show (qs ++ [(x : Int)]).getD qs.length default ≤ _
          rw [e]; omega
    refine k_loop (σ := Nat) (fun j h' => Hs g h' [.sl vq 3 1 eI qs, .sl vs 143 2 eSt out] ∧ j ≤ qs.length) (fun j => qs.length - j) (fun j => [(0, v), (7, u), (8, vs), (9, vq), (35, vq), (36, .int .i64 qs.length), (37, .int .i64 j)]) 0 (by repeat (first | exact Ks.le_nil _ | refine Ks.le_cons rfl ?_ | refine Ks.le_int ?_)) ?_ ?_
    · exact ⟨S, Nat.zero_le _⟩
    clear S
    rintro j h ⟨S, hj⟩
    all_goals (repeat' (first | refine K_seq ?_ | refine k_cond rfl ?_ | refine K_skip ?_ | refine K_exit ?_ | refine k_block ?_ | refine K_scope ?_ | (refine K_region (id := 12) ?_; (first | refine cT ?_ | refine cF ?_ | (refine cS ?_ ?_ <;> intro hc)) <;> (refine KO_nil ?_)) | (refine K_region (id := 13) ?_; (first | refine ixB S ?_ | refine ixS S rfl rfl ?_); (first | refine lB S rfl rfl ?_ | refine lES S rfl rfl ?_ | refine lEB S ?_ | refine lH S ?_); refine mv ?_; refine KO_nil ?_) | (refine K_region (id := 14) ?_; refine mv ?_; refine mv ?_; refine mv ?_; refine mv ?_; refine mv ?_; skip) | (refine K_region (id := 17) ?_; refine mv ?_; refine mv ?_)))
    · (try simp only [Int.toNat_natCast] at *)
      (refine KO_fn rfl rfl rfl rfl rfl ((lawSeat_ok S.wf u v vs vq l2 l out qs (qs.getD j default) (Hu.ext w1 S.ext) (H1.ext w1 S.ext) sa (Rd.of_sl S (.there .here)) ao (h3 j (by omega)) (Rd.of_sl S .here) (by omega) h3).mono ?_); rintro _ h ⟨rfl, x⟩) <;> (replace S := S.join0 x; clear x; refine vl ?_; refine KO_nil ?_)
      all_goals (repeat' (first | refine K_seq ?_ | refine k_cond rfl ?_ | refine K_skip ?_ | refine K_exit ?_ | refine k_block ?_ | refine K_scope ?_ | (refine K_region (id := 15) ?_; refine mv ?_; refine KO_nil ?_) | (refine K_region (id := 16) ?_; (first | refine ad ?_ | refine vl ?_); refine mv ?_; refine KO_nil ?_)))
      refine ⟨j + 1, ?_, ?_, (by repeat (first | exact Ks.le_nil _ | refine Ks.le_cons rfl ?_ | refine Ks.le_int ?_))⟩
      · show qs.length - (j + 1) < qs.length - j; omega
      · exact ⟨S, by omega⟩
    (refine KO_fn rfl rfl rfl rfl rfl ((same_ok S.wf u v l2 l (Hu.ext w1 S.ext).rd (H1.ext w1 S.ext).rd (Hu.ext w1 S.ext).tab (H1.ext w1 S.ext).tab (by omega) (by omega)).mono ?_); rintro _ h ⟨⟨rfl, hq⟩ | ⟨rfl, hq⟩, x⟩) <;> (replace S := S.join0 x; clear x; refine mv ?_; refine KO_nil ?_)
    all_goals (repeat' (first | refine K_seq ?_ | refine k_cond rfl ?_ | refine K_skip ?_ | refine K_exit ?_ | refine k_block ?_ | refine K_scope ?_))
    all_goals (refine K_ret ⟨_, rfl, ?_⟩)
    · exact ⟨rfl, T.join0 S.drop⟩
    · exact absurd sa hq

  · replace S := S.nilS (e := 143) (z := 2) (enc := eSt)
    all_goals (repeat' (first | refine K_seq ?_ | refine k_cond rfl ?_ | refine K_skip ?_ | refine K_exit ?_ | refine k_block ?_ | refine K_scope ?_ | (refine K_region (id := 5) ?_; refine mv ?_; refine mv ?_; refine mv ?_; (first | refine lnB S ?_ | refine lnS S rfl rfl ?_))))
    have ao : AllR l [] := .inr ⟨hv, rfl⟩
    have hol : ([] : List (Nat × Nat)).length ≤ 24000 := by simp
    refine bsn (z := 1) eI [ya, yb, -1, (([] : List (Nat × Nat)).length : Int)] S ?_; clear S; intro vq h S; (refine mv ?_; refine KO_nil ?_)
    all_goals (repeat' (first | refine K_seq ?_ | refine k_cond rfl ?_ | refine K_skip ?_ | refine K_exit ?_ | refine k_block ?_ | refine K_scope ?_ | (refine K_region (id := 6) ?_; refine mv ?_; (first | refine lnB S ?_ | refine lnS S rfl rfl ?_); refine mn ?_; refine mv ?_; refine KO_nil ?_)))
    refine k_loop (σ := Nat × List Int × Value) (fun (x, qs, vq) h' => Hs g h' [.sl vq 3 1 eI qs, .sl (.slice none 0 0) 143 2 eSt ([] : List (Nat × Nat))] ∧ (x : Int) ≤ min (([] : List (Nat × Nat)).length : Int) 30 ∧ qs.length = 4 + x ∧ ∀ j, j < qs.length → qs.getD j default ≤ 9223372036854775807) (fun (x, qs, vq) => 30 - x) (fun (x, qs, vq) => [(0, v), (7, u), (8, (.slice none 0 0)), (9, vq), (26, .int .i64 (min (([] : List (Nat × Nat)).length : Int) 30)), (27, .int .i64 x)]) (0, [ya, yb, -1, (([] : List (Nat × Nat)).length : Int)], vq) (by repeat (first | exact Ks.le_nil _ | refine Ks.le_cons rfl ?_ | refine Ks.le_int ?_)) ?_ ?_
    · refine ⟨S, by omega, rfl, fun j hj => ?_⟩
      match j, hj with
      | 0, _ => exact ha
      | 1, _ => exact hb
      | 2, _ => show (-1 : Int) ≤ _; omega
      | 3, _ => show (([] : List (Nat × Nat)).length : Int) ≤ _; omega
    clear S
    rintro ⟨x, qs, vq⟩ h ⟨S, h1, h2, h3⟩
    all_goals (repeat' (first | refine K_seq ?_ | refine k_cond rfl ?_ | refine K_skip ?_ | refine K_exit ?_ | refine k_block ?_ | refine K_scope ?_ | (refine K_region (id := 7) ?_; (first | refine cT ?_ | refine cF ?_ | (refine cS ?_ ?_ <;> intro hc)) <;> (refine KO_nil ?_)) | (refine K_region (id := 8) ?_; refine mv ?_; refine mv ?_; refine KO_nil ?_) | (refine K_region (id := 9) ?_; refine mv ?_; refine mv ?_; (refine one 1 S ?_; clear S; intro u h S)) | (refine K_region (id := 11) ?_; refine mv ?_; (first | refine lnB S ?_ | refine lnS S rfl rfl ?_); refine mv ?_; refine KO_nil ?_)))
    · refine app (y0 := (x : Int)) S rfl rfl ?_; clear S; intro v h S; refine mv ?_; refine KO_nil ?_
      all_goals (repeat' (first | refine K_seq ?_ | refine k_cond rfl ?_ | refine K_skip ?_ | refine K_exit ?_ | refine k_block ?_ | refine K_scope ?_ | (refine K_region (id := 10) ?_; (first | refine ad ?_ | refine vl ?_); refine mv ?_; refine KO_nil ?_)))
      refine ⟨(x + 1, qs ++ [(x : Int)], v), ?_, ?_, (by repeat (first | exact Ks.le_nil _ | refine Ks.le_cons rfl ?_ | refine Ks.le_int ?_))⟩
      · show 30 - (x + 1) < 30 - x; omega
      · refine ⟨S, by omega, by simp; omega, fun j hj => ?_⟩
        rcases Nat.lt_or_ge j qs.length with q | q
        · have e : (qs ++ [(x : Int)]).getD j default = qs.getD j default := by simp only [List.getD_eq_getElem?_getD, List.getElem?_append_left q]
          show (qs ++ [(x : Int)]).getD j default ≤ _
          rw [e]; exact h3 j q
        · have hj' : j < qs.length + 1 := by simpa using hj
          obtain rfl : j = qs.length := by omega
          have e : (qs ++ [(x : Int)]).getD qs.length default = (x : Int) := by simp only [List.getD_eq_getElem?_getD, List.getElem?_append_right (Nat.le_refl _), Nat.sub_self]; rfl
          show (qs ++ [(x : Int)]).getD qs.length default ≤ _
          rw [e]; omega
    refine k_loop (σ := Nat) (fun j h' => Hs g h' [.sl vq 3 1 eI qs, .sl (.slice none 0 0) 143 2 eSt ([] : List (Nat × Nat))] ∧ j ≤ qs.length) (fun j => qs.length - j) (fun j => [(0, v), (7, u), (8, (.slice none 0 0)), (9, vq), (35, vq), (36, .int .i64 qs.length), (37, .int .i64 j)]) 0 (by repeat (first | exact Ks.le_nil _ | refine Ks.le_cons rfl ?_ | refine Ks.le_int ?_)) ?_ ?_
    · exact ⟨S, Nat.zero_le _⟩
    clear S
    rintro j h ⟨S, hj⟩
    all_goals (repeat' (first | refine K_seq ?_ | refine k_cond rfl ?_ | refine K_skip ?_ | refine K_exit ?_ | refine k_block ?_ | refine K_scope ?_ | (refine K_region (id := 12) ?_; (first | refine cT ?_ | refine cF ?_ | (refine cS ?_ ?_ <;> intro hc)) <;> (refine KO_nil ?_)) | (refine K_region (id := 13) ?_; (first | refine ixB S ?_ | refine ixS S rfl rfl ?_); (first | refine lB S rfl rfl ?_ | refine lES S rfl rfl ?_ | refine lEB S ?_ | refine lH S ?_); refine mv ?_; refine KO_nil ?_) | (refine K_region (id := 14) ?_; refine mv ?_; refine mv ?_; refine mv ?_; refine mv ?_; refine mv ?_; skip) | (refine K_region (id := 17) ?_; refine mv ?_; refine mv ?_)))
    · (try simp only [Int.toNat_natCast] at *)
      (refine KO_fn rfl rfl rfl rfl rfl ((lawSeat_ok S.wf u v (.slice none 0 0) vq l2 l ([] : List (Nat × Nat)) qs (qs.getD j default) (Hu.ext w1 S.ext) (H1.ext w1 S.ext) sa (Rd.of_sl S (.there .here)) ao (h3 j (by omega)) (Rd.of_sl S .here) (by omega) h3).mono ?_); rintro _ h ⟨rfl, x⟩) <;> (replace S := S.join0 x; clear x; refine vl ?_; refine KO_nil ?_)
      all_goals (repeat' (first | refine K_seq ?_ | refine k_cond rfl ?_ | refine K_skip ?_ | refine K_exit ?_ | refine k_block ?_ | refine K_scope ?_ | (refine K_region (id := 15) ?_; refine mv ?_; refine KO_nil ?_) | (refine K_region (id := 16) ?_; (first | refine ad ?_ | refine vl ?_); refine mv ?_; refine KO_nil ?_)))
      refine ⟨j + 1, ?_, ?_, (by repeat (first | exact Ks.le_nil _ | refine Ks.le_cons rfl ?_ | refine Ks.le_int ?_))⟩
      · show qs.length - (j + 1) < qs.length - j; omega
      · exact ⟨S, by omega⟩
    (refine KO_fn rfl rfl rfl rfl rfl ((same_ok S.wf u v l2 l (Hu.ext w1 S.ext).rd (H1.ext w1 S.ext).rd (Hu.ext w1 S.ext).tab (H1.ext w1 S.ext).tab (by omega) (by omega)).mono ?_); rintro _ h ⟨⟨rfl, hq⟩ | ⟨rfl, hq⟩, x⟩) <;> (replace S := S.join0 x; clear x; refine mv ?_; refine KO_nil ?_)
    all_goals (repeat' (first | refine K_seq ?_ | refine k_cond rfl ?_ | refine K_skip ?_ | refine K_exit ?_ | refine k_block ?_ | refine K_scope ?_))
    all_goals (refine K_ret ⟨_, rfl, ?_⟩)
    · exact ⟨rfl, T.join0 S.drop⟩
    · exact absurd sa hq


theorem hallSeats_true {h0 : AH} (w : WfH h0) (v : Value) (l : List Tab) (A : HallA h0 v l) (ya yb : Int) (ha : ya ≤ 9223372036854775807) (hb : yb ≤ 9223372036854775807) : Fn Tryz.prog Xh 6 [v, .int .i64 ya, .int .i64 yb] h0 (fun x _ => x = .bool true) := by
  have S := Hs.start w
  have hr := A.rd
  refine Fn_K rfl Tryz.func6 rfl rfl ?_
  all_goals (repeat' (first | refine K_seq ?_ | refine k_cond rfl ?_ | refine K_skip ?_ | refine K_exit ?_ | refine k_block ?_ | refine K_scope ?_ | (refine K_region (id := 0) ?_; refine mv ?_; refine KO_nil ?_) | (refine K_region (id := 1) ?_; refine mv ?_)))
  (refine KO_fn rfl rfl rfl rfl rfl ((fewA_ok S.wf v l A).mono ?_); rintro _ h ⟨⟨rfl, hq⟩ | ⟨rfl, hq⟩, x⟩) <;> (replace S := S.join0 x; clear x; refine vl ?_; refine mv ?_; (first | refine off ?_ | refine mv ?_); (first | refine off ?_ | (first | refine lnB S ?_ | refine lnS S rfl rfl ?_)); (first | refine off ?_ | (first | refine cT ?_ | refine cF ?_ | (refine cS ?_ ?_ <;> intro hc))) <;> (refine vl ?_; refine mv ?_; (first | refine off ?_ | refine mv ?_); (first | refine off ?_ | refine mv ?_); (first | refine off ?_ | refine mv ?_); (first | (refine off ?_; refine vl ?_; refine mv ?_; (first | (refine off ?_; refine vl ?_; refine mv ?_; refine KO_nil ?_) | skip)) | skip)))
  · (refine KO_fn rfl rfl rfl rfl rfl ((awake_ok).mono ?_); rintro _ h ⟨rfl, rfl⟩) <;> (refine vl ?_; refine mv ?_; refine KO_nil ?_)
    all_goals (repeat' (first | refine K_seq ?_ | refine k_cond rfl ?_ | refine K_skip ?_ | refine K_exit ?_ | refine k_block ?_ | refine K_scope ?_))
    refine K_ret ⟨_, rfl, ?_⟩
    rfl
  · (refine KO_fn rfl rfl rfl rfl rfl ((lawSeats_ok S.wf v l ((A.few hq).ext w S.ext) ya yb ha hb).mono ?_); rintro _ h ⟨rfl, x⟩) <;> (replace S := S.join0 x; clear x; refine vl ?_; refine mv ?_; (first | (refine off ?_; refine vl ?_; refine mv ?_; refine KO_nil ?_) | skip))
    (refine KO_fn rfl rfl rfl rfl rfl ((awake_ok).mono ?_); rintro _ h ⟨rfl, rfl⟩) <;> (refine vl ?_; refine mv ?_; refine KO_nil ?_)
    all_goals (repeat' (first | refine K_seq ?_ | refine k_cond rfl ?_ | refine K_skip ?_ | refine K_exit ?_ | refine k_block ?_ | refine K_scope ?_))
    refine K_ret ⟨_, rfl, ?_⟩
    rfl
  · (refine KO_fn rfl rfl rfl rfl rfl ((awake_ok).mono ?_); rintro _ h ⟨rfl, rfl⟩) <;> (refine vl ?_; refine mv ?_; refine KO_nil ?_)
    all_goals (repeat' (first | refine K_seq ?_ | refine k_cond rfl ?_ | refine K_skip ?_ | refine K_exit ?_ | refine k_block ?_ | refine K_scope ?_))
    refine K_ret ⟨_, rfl, ?_⟩
    rfl
theorem wf_i64 {x : Int} (h : (Lit.int .i64 x).wf = true) : x ≤ 9223372036854775807 := by
  simp [Lit.wf, IntKind.min, IntKind.max, IntKind.signed, IntKind.bits] at h
  omega
theorem hallSeats_core (h : AH) (us : List Value) (w : WfH h) (a : ArgsR Tryz.prog h Tryz.f6.params.toList us) : Fn Tryz.prog Xh 6 us h (fun x _ => x = .bool true) := by
  rw [show Tryz.f6.params.toList = [27, 3, 3] by kernel_rfl] at a
  obtain ⟨n0, r0, us, rfl, a0, a⟩ := a.cons_inv
  obtain ⟨n1, r1, us, rfl, a1, a⟩ := a.cons_inv
  obtain ⟨n2, r2, us, rfl, a2, a⟩ := a.cons_inv
  obtain rfl := a.nil_inv
  obtain ⟨v, l, rfl, A⟩ := AR.hall1 a0
  obtain ⟨x, rfl, hx⟩ := a1.int1 (k := .i64) (by kernel_rfl)
  obtain ⟨y, rfl, hy⟩ := a2.int1 (k := .i64) (by kernel_rfl)
  exact hallSeats_true w v l A x y (wf_i64 hx) (wf_i64 hy)
end Go.Proofs.Xx

/-
  What is known of the listed variables (nothing is asked of them here); a block of cells that is there in every world.
-/
namespace Go.Proofs.Xx
open Go Go.RowKit Go.Proofs
instance globAny : Glob := ⟨fun _ => True⟩
theorem Xh_none (f : FuncId) (h1 : f ≠ 21) (h2 : f ≠ 200) (us : List Value) (h : AH) : Xh f us h = none := by
  have e1 : Nat.beq f 21 = false := by rw [Bool.eq_false_iff]; intro q; exact h1 (Nat.eq_of_beq_eq_true q)
  have e2 : Nat.beq f 200 = false := by rw [Bool.eq_false_iff]; intro q; exact h2 (Nat.eq_of_beq_eq_true q)
  unfold Xh withKnown externNoEscape
  simp only [e1, e2]
theorem gDe : Tryz.prog.globalNamed "math/bits.deBruijn32tab" = some 2 := by kernel_rfl
theorem gDeType : (Tryz.prog.globals[2]?).map (·.type) = some 211 := by kernel_rfl
theorem cell_block {W : World} {b o : Nat} {v : Value} (h : W.cell? ⟨b, o, none⟩ = some v) : ∃ (k : Nat) (cc : Array Value) (el : TypeId) (fr : Nat × Nat), W.heap[k]? = some (.cells cc el fr) := by
  unfold World.cell? at h
  split at h
  · rename_i c e f hc; exact ⟨b, c, e, f, hc⟩
  · cases h
theorem cells_there {W : World} {rest : List (String × DataW Unit)} (h : laidMet Tryz.prog (("math/bits.deBruijn32tab", YtnopenpheaihmaaGreatDoor.Rows.laid_math_bits_deBruijn32tab) :: rest) W) :
    ∃ (k : Nat) (cc : Array Value) (el : TypeId) (fr : Nat × Nat), W.heap[k]? = some (.cells cc el fr) := by
  have t : Lib.TabIs Tryz.prog W "math/bits.deBruijn32tab" .u8 [0, 1, 28, 2, 29, 14, 24, 3, 30, 22, 20, 15, 25, 17, 4, 8, 31, 27, 13, 23, 21, 19, 16, 7, 26, 12, 18, 6, 11, 5, 10, 9] :=
    Lib.tabIs_of_head gDe gDeType (n := 32) (e := 5) (by kernel_rfl) (by kernel_rfl) (by kernel_rfl) (by kernel_rfl) h
  exact cell_block (t.cell gDe 0 (by decide))
end Go.Proofs.Xx
