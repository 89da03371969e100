/-
  A book is asked: names, Find, Tied, With.
-/
import Derived.Test.YtidmdnenlgjpeaaGreatDoorM10
import Derived.Test.YtidmdnenlgjpeaaGreatDoorM12
import Derived.Test.YtidmdnenlgjpeaaGreatDoorM9

namespace Go.Proofs.Xx
open Go Go.Proofs
set_option linter.unusedSimpArgs false
set_option linter.unusedVariables false
set_option linter.unusedSectionVars false
set_option maxRecDepth 100000
set_option maxHeartbeats 4000000

/-- What a map reads as. -/
def MpRd {α : Type} (h : AH) (b : Nat) (enc : α → Value) (l : List (List UInt8 × α)) : Prop := ∃ es clock, h.get b = some (.map es clock) ∧ es.map (fun e => (e.1, e.2.1)) = l.map (fun p => (Value.string ⟨p.1.toArray⟩, enc p.2))
theorem MpRd.ext {α : Type} {h h' : AH} {b : Nat} {enc : α → Value} {l : List (List UInt8 × α)} (r : MpRd h b enc l) (w : WfH h) (x : Ext h h') : MpRd h' b enc l := by
  obtain ⟨es, clock, h1, h2⟩ := r
  exact ⟨es, clock, x.get w h1, h2⟩
section
variable {P : Program} {X : Extern} {sz : Nat} {L : Ks} {h h0 : AH} {rs : List Rs} {ops : Array Oper} {os : List Oper} {o : Oper} {R : Ks → AH → Prop}
/-- A search in a map that is only read. -/
theorem lkR {α : Type} {b : Nat} {enc : α → Value} {l : List (List UInt8 × α)} {m k : Operand} {ty kt et : TypeId} {key : List UInt8} {z : Value} {d : Tmp} {ok : Bool} (r : MpRd h b enc l)
    (w1 : ∀ x, mGet l key = some x → KO P X sz ops os (L.put d (okV ok (enc x) true)) h R)
    (w2 : mGet l key = none → KO P X sz ops os (L.put d (okV ok z false)) h R)
    (ho : o.op = .lookup ty m k ok := by exact rfl) (hg : guardA ops L.tree o.guard = some true := by exact rfl) (hm : kA L m = some (.map (some b)) := by exact rfl) (hk : kA L k = some (str key) := by exact rfl)
    (hu : P.underlying ty = some (.map kt et) := by exact rfl) (hkt : P.underlying kt = some .string := by exact rfl) (hz : zeroV P et = some z := by exact rfl) (hdst : o.dst = some d := by exact rfl) (hds : Nat.blt d sz = true := by exact rfl) : KO P X sz ops (o :: os) L h R := by
  obtain ⟨es, clock, h1, h2⟩ := r
  have hT : mapT P ty (str key) = some (.string, et) := by
    unfold mapT
    simp only [hu, hkt]; rfl
  have hM : aMapOf (.map (some b)) h = some es := by
    unfold aMapOf
    simp only [h1]
  have hF := aFind_mp (enc := enc) (k := key) (i := 0) h2
  cases hq : mGet l key with
  | none =>
    refine KO_val hg (v := okV ok z false) (h' := h) ?_ (show putK sz L o.dst _ = some (L.put d _) by simp only [putK, hdst, hds]) (w2 hq)
    rw [ho]; simp only [aOp, tree_le hm, tree_le hk, aLookup, hT, hM, hF, mGet_none hq, Option.map_none, hz, nextOf]; rfl
  | some x =>
    obtain ⟨i, hi⟩ := mGet_some hq
    refine KO_val hg (v := okV ok (enc x) true) (h' := h) ?_ (show putK sz L o.dst _ = some (L.put d _) by simp only [putK, hdst, hds]) (w1 x hq)
    rw [ho]; simp only [aOp, tree_le hm, tree_le hk, aLookup, hT, hM, hF, hi, Option.map_some, nextOf]; rfl
end
/-- The book at p reads as a roll. -/
structure BkAt (h : AH) (p : Nat) (r : Rl) (s : BkS) : Prop where
  bk : h.get p = some (.cells [s.vg.val, s.vt.val, .map (some s.m)] 86 none false)
  rg : RdL h s.vg.val 9 eG s.gs
  rt : RdL h s.vt.val 3 eTi r.ts
  mp : MpRd h s.m (.int .i64) s.mp
  tg : ∀ i, i < s.gs.length → RdL h (s.gs.getD i default).tv.val 1 eS (s.gs.getD i default).tg
  us : s.gs.map (·.toGu) = r.us
  at_ : AtOk s.mp r.us
def BkRd (h : AH) (p : Nat) (r : Rl) : Prop := ∃ s, BkAt h p r s
theorem BkRd.ext {h h' : AH} {p : Nat} {r : Rl} (b : BkRd h p r) (w : WfH h) (x : Ext h h') : BkRd h' p r := by
  obtain ⟨s, b⟩ := b
  exact ⟨s, x.get w b.bk, b.rg.ext w x, b.rt.ext w x, b.mp.ext w x, fun i hi => (b.tg i hi).ext w x, b.us, b.at_⟩
theorem BkAt.len {h : AH} {p : Nat} {r : Rl} {s : BkS} (b : BkAt h p r s) : s.gs.length = r.us.length := by rw [← b.us]; simp
theorem BkAt.g {h : AH} {p : Nat} {r : Rl} {s : BkS} (b : BkAt h p r s) {i : Nat} (hi : i < s.gs.length) : (s.gs.getD i default).toGu = r.us.getD i default := by rw [← b.us, map_getD hi]
theorem Hs.bkRd {h0 h : AH} {rs : List Rs} {p : Nat} {r : Rl} (S : Hs h0 h (bookR p r :: rs)) : BkRd h p r := by
  obtain ⟨s, ⟨q1, q2⟩, S⟩ := S.unpack
  obtain ⟨fp, k⟩ := Hs.anyP (p := TgsOk s.gs) S (.there (.there (.there (.there .here))))
  obtain ⟨es, clock, m1, m2, -⟩ := mp_get S (.there (.there (.there .here)))
  exact ⟨s, blk_get S .here, Rd.of_sl S (.there .here), Rd.of_sl S (.there (.there .here)), ⟨es, clock, m1, m2⟩, fun i hi => TgsOk.rd k hi, q1, q2⟩
/-- Words in order, each once. -/
def SS (l : List (List UInt8)) : Prop := ∀ i j, i < j → j < l.length → sLt (l.getD i default) (l.getD j default)
theorem nodup_ne {l : List (List UInt8)} (h : l.Nodup) {i j : Nat} (hij : i < j) (hj : j < l.length) : l.getD i default ≠ l.getD j default := by
  rw [List.getD_eq_getElem?_getD, List.getD_eq_getElem?_getD, List.getElem?_eq_getElem hj, List.getElem?_eq_getElem (show i < l.length by omega)]
  exact List.pairwise_iff_getElem.1 h i j (by omega) hj hij
theorem SS.of {l l' : List (List UInt8)} (s : Sw 0 l.length l l') (h : Srt sLt 0 l.length l') (hn : l.Nodup) : SS l' := fun i j hij hj => by
  have hl := s.len
  have hn' : l'.Nodup := s.perm.nodup_iff.2 hn
  have h1 := h i j (Nat.zero_le _) hij (by omega)
  rcases sLe_of h1 with q | q
  · exact absurd q (nodup_ne hn' hij hj)
  · exact q
theorem SS.nodup {l : List (List UInt8)} (h : SS l) : l.Nodup := by
  rw [List.nodup_iff_pairwise_ne, List.pairwise_iff_getElem]
  intro i j hi hj hij
  have := h i j hij hj
  rw [List.getD_eq_getElem?_getD, List.getD_eq_getElem?_getD, List.getElem?_eq_getElem hj, List.getElem?_eq_getElem hi] at this
  exact sLt_ne this
/-- Whom a kind of tie joins to n. -/
def adj (r : Rl) (k : Int) (n x : List UInt8) : Prop := ∃ t ∈ r.ts, t.k = k ∧ ((t.a = n ∧ t.b = x) ∨ (t.b = n ∧ t.a = x))
theorem adj.symm {r : Rl} {k : Int} {n x : List UInt8} (h : adj r k n x) : adj r k x n := by
  obtain ⟨t, h1, h2, h3⟩ := h
  exact ⟨t, h1, h2, h3.elim (fun q => .inr ⟨q.2, q.1⟩) (fun q => .inl ⟨q.2, q.1⟩)⟩
/-- What a tie adds to the list. -/
def witT (k : Int) (n : List UInt8) (t : Ti) : List (List UInt8) := if t.k ≠ k then [] else if t.a = n then [t.b] else if t.b = n then [t.a] else []
theorem nodup_leM {α : Type} [DecidableEq α] : ∀ {l m : List α}, l.Nodup → (∀ x ∈ l, x ∈ m) → l.length ≤ m.length
  | [], m, _, _ => Nat.zero_le _
  | x :: l, m, h, hs => by
    have hx := hs x (by simp)
    have h2 := List.nodup_cons.1 h
    have := nodup_leM (l := l) (m := m.erase x) h2.2 fun y hy => by
      rw [List.mem_erase_of_ne (show y ≠ x from fun e => h2.1 (by rw [← e]; exact hy))]
      exact hs y (by simp [hy])
    rw [List.length_erase_of_mem hx] at this
    have : 0 < m.length := List.length_pos_of_mem hx
    rw [List.length_cons]; omega
theorem adj_known {r : Rl} (H : RO r) {k : Int} {n x : List UInt8} (h : adj r k n x) : gat r.us n ≠ none ∧ gat r.us x ≠ none ∧ n ≠ x := by
  obtain ⟨t, h1, h2, h3⟩ := h
  obtain ⟨t1, t2, t3, t4⟩ := H.tt t h1
  rcases h3 with ⟨rfl, rfl⟩ | ⟨rfl, rfl⟩
  · exact ⟨t3, t4, sLt_ne t1⟩
  · exact ⟨t4, t3, (sLt_ne t1).symm⟩
theorem gat_name {us : List Gu} {n : List UInt8} (h : gat us n ≠ none) : n ∈ us.map (·.name) := by
  obtain ⟨g, h1, h2⟩ := gat_mem.1 h
  exact List.mem_map.2 ⟨g, h1, h2⟩
variable [Flag]
theorem bnames_ok {h0 : AH} (w : WfH h0) {p : Nat} {r : Rl} (B : BkRd h0 p r) (H : RO r) : Fn Tryz.prog Xh 73 [.pointer (some ⟨p, 0, none⟩)] h0 (fun u h' => ∃ l, Hs h0 h' [.sl u 9 1 eS l] ∧ SS l ∧ (∀ x, x ∈ l ↔ gat r.us x ≠ none) ∧ l.length = r.us.length) := by
  have S := Hs.start w
  obtain ⟨s, B⟩ := B
  have hb := B.bk
  have hrg := B.rg
  have hgl := B.len
  have h64 := H.l64
  refine Fn_K rfl Tryz.func73 rfl rfl ?_
  all_goals (repeat' (first | refine K_seq ?_ | (refine K_region (id := 0) ?_; refine mv ?_; refine KO_nil ?_) | (refine K_region (id := 1) ?_; refine mv ?_; refine KO_nil ?_)))
  have S := S.nilS (e := 9) (z := 1) (enc := eS)
  all_goals (repeat' (first | refine k_block ?_ | (refine K_region (id := 2) ?_; refine mv ?_; refine vl ?_; refine vl ?_; refine vl ?_; refine lH S ?_; refine lnB S ?_; refine mv ?_; refine KO_nil ?_)))
  refine k_loop (σ := Nat × Value) (fun (i, v) h' => Hs h0 h' [.sl v 9 1 eS ((r.us.take i).map (·.name))] ∧ i ≤ r.us.length) (fun (i, v) => r.us.length - i) (fun (i, v) => [(3, v), (10, s.vg.val), (11, .int .i64 s.gs.length), (12, .int .i64 i)]) (0, .slice none 0 0) (by repeat (first | exact Ks.le_nil _ | refine Ks.le_cons rfl ?_)) ?_ ?_
  · exact ⟨S, Nat.zero_le _⟩
  clear S
  rintro ⟨i, v⟩ h ⟨S, g1⟩
  all_goals (repeat' (first | refine K_seq ?_ | refine k_cond rfl ?_ | refine K_skip ?_ | refine K_exit ?_ | refine k_block ?_ | (refine K_region (id := 3) ?_; (first | (refine cS ?_ ?_ <;> intro hc)) <;> (refine KO_nil ?_)) | (refine K_region (id := 4) ?_; refine ixB S ?_; refine lEB S ?_; (refine al S ?_; clear S; intro b h S); (first | (refine sB S rfl rfl ?_; clear S; intro h S)); refine KO_nil ?_) | (refine K_region (id := 5) ?_; refine mv ?_; refine vl ?_; refine lB S rfl rfl ?_; (refine one 1 S ?_; clear S; intro u h S))))
  · have hil : i < s.gs.length := by omega
    have hg := B.g hil
    simp only [Int.toNat_natCast] at *
    refine app (y0 := (s.gs.getD i default).name) S rfl rfl ?_; clear S; intro v' h S; (refine mv ?_; refine KO_nil ?_)
    all_goals (repeat' (first | (refine K_region (id := 6) ?_; refine ad ?_; refine mv ?_; refine KO_nil ?_)))
    refine ⟨(i + 1, v'), ?_, ?_, (by repeat (first | exact Ks.le_nil _ | refine Ks.le_cons rfl ?_))⟩
    · show r.us.length - (i + 1) < r.us.length - i; omega
    · refine ⟨?_, by (try dsimp only); omega⟩
      dsimp only
      have e : (r.us.take (i + 1)).map (·.name) = (r.us.take i).map (·.name) ++ [(s.gs.getD i default).name] := by rw [take_succ_getD (by omega), ← hg]; simp
      rw [e]
      exact S.pick
  · obtain rfl : i = r.us.length := by omega
    rw [List.take_length] at S
    skip
    all_goals (repeat' (first | (refine K_region (id := 7) ?_; refine mv ?_)))
    have hl2 : (r.us.map (·.name)).length < 250 := by simp; omega
    (refine KO_fn rfl rfl rfl rfl rfl ((sort_o S hl2).mono ?_); rintro _ h ⟨l, z1, z2, S⟩) <;> (refine KO_nil ?_)
    all_goals (repeat' (first | refine K_seq ?_ | (refine K_region (id := 8) ?_; refine mv ?_; refine mv ?_; refine KO_nil ?_)))
    refine K_ret ⟨_, rfl, ?_⟩
    have hn : (r.us.map (·.name)).Nodup := by
      rw [List.Nodup, List.pairwise_iff_getElem]
      intro i j hi hj hij
      simp only [List.length_map] at hi hj
      have := H.nd i j hij hj
      rw [List.getD_eq_getElem?_getD, List.getD_eq_getElem?_getD, List.getElem?_eq_getElem hj, List.getElem?_eq_getElem hi] at this
      simpa using this
    refine ⟨l, S, SS.of z1 z2 hn, fun x => ?_, (by rw [z1.len]; simp)⟩
    rw [z1.perm.mem_iff, gat_mem, List.mem_map]
theorem find_ok {h0 : AH} (w : WfH h0) {p : Nat} {r : Rl} (B : BkRd h0 p r) (H : RO r) (n : List UInt8) : Fn Tryz.prog Xh 26 [.pointer (some ⟨p, 0, none⟩), str n] h0 (fun u h' => (∃ (i : Nat) (tv : SlV), gat r.us n = some i ∧ u = .tuple #[gV ⟨r.us.getD i default, tv⟩, .bool true] ∧ Hs h0 h' [.sl tv.val 9 1 eS (r.us.getD i default).tg]) ∨ (gat r.us n = none ∧ u = .tuple #[gV ⟨default, ⟨none, 0, 0⟩⟩, .bool false] ∧ Hs h0 h' [])) := by
  have S := Hs.start w
  obtain ⟨s, B⟩ := B
  have hb := B.bk
  have hrg := B.rg
  have hgl := B.len
  have h64 := H.l64
  refine Fn_K rfl Tryz.func26 rfl rfl ?_
  all_goals (repeat' (first | refine K_seq ?_ | (refine K_region (id := 0) ?_; (refine al S ?_; clear S; intro b h S); refine mv ?_; refine KO_nil ?_) | (refine K_region (id := 1) ?_; refine mv ?_)))
  (refine KO_fn rfl rfl rfl rfl rfl ((bnone_ok S.wf (S.ext.get w hb)).mono ?_); rintro _ h ⟨rfl, x⟩) <;> (replace S := S.join0 x; clear x; refine KO_nil ?_)
  all_goals (repeat' (first | refine K_seq ?_ | refine k_cond rfl ?_ | refine K_skip ?_ | (refine K_region (id := 3) ?_; refine mv ?_; refine vl ?_; refine vl ?_; refine lH S ?_; refine mv ?_)))
  have hmp := B.mp.ext w S.ext
  refine lkR hmp (fun i hi => ?_) (fun hi => ?_)
  · simp only [okV]
    (refine mv ?_; refine vl ?_; refine vl ?_; refine mv ?_; refine mv ?_; refine KO_nil ?_)
    rw [B.at_ n] at hi
    cases hq : gat r.us n with
    | none => rw [hq] at hi; cases hi
    | some i' =>
      rw [hq] at hi; cases hi
      obtain ⟨q1, q2, q3⟩ := gat_some hq
      have hil : i' < s.gs.length := by omega
      have hg := B.g hil
      have hd := H.chk _ (mem_getD q1)
      have h4 := (chkG_ok hd).2.2.2.1
      all_goals (repeat' (first | refine K_seq ?_ | refine k_cond rfl ?_ | refine K_skip ?_ | (refine K_region (id := 4) ?_; refine mv ?_; refine vl ?_; refine KO_nil ?_) | (refine K_region (id := 6) ?_; refine mv ?_; refine vl ?_; refine vl ?_; refine vl ?_; refine lH S ?_; refine mv ?_; refine ixB S ?_; refine lEB S ?_)))
      have e1 : (Int.ofNat i').toNat = i' := rfl
      simp only [e1]
      (refine KO_fn rfl rfl rfl rfl rfl ((copied_ok S.wf (s.gs.getD i' default) ((B.tg i' hil).ext w S.ext) (by grind)).mono ?_); rintro _ h ⟨tv, rfl, x⟩) <;> (replace S := S.join1 x; clear x; (first | (refine sB S rfl rfl ?_; clear S; intro h S)); refine mv ?_; refine KO_nil ?_)
      rw [hg] at S
      all_goals (repeat' (fail))
      refine K_ret ⟨_, ret_cell S rfl (by first | exact .there .here) (by exact rfl) (by exact rfl), ?_⟩
      exact .inl ⟨i', tv, rfl, rfl, S.only .here⟩
  · simp only [okV]
    (refine mv ?_; refine vl ?_; refine vl ?_; refine mv ?_; refine mv ?_; refine KO_nil ?_)
    skip
    all_goals (repeat' (first | refine K_seq ?_ | refine k_cond rfl ?_ | (refine K_region (id := 4) ?_; refine mv ?_; refine vl ?_; refine KO_nil ?_) | (refine K_region (id := 5) ?_; refine vl ?_; (first | (refine sB S rfl rfl ?_; clear S; intro h S)); refine mv ?_; refine KO_nil ?_)))
    refine K_ret ⟨_, ret_cell S rfl (by first | exact .here) (by exact rfl) (by exact rfl), ?_⟩
    refine .inr ⟨?_, rfl, S.drop⟩
    rw [B.at_ n] at hi
    cases hq : gat r.us n with
    | none => rfl
    | some i' => rw [hq] at hi; cases hi
theorem tied_ok {h0 : AH} (w : WfH h0) {p : Nat} {r : Rl} (B : BkRd h0 p r) (H : RO r) (a b : List UInt8) : Fn Tryz.prog Xh 36 [.pointer (some ⟨p, 0, none⟩), str a, str b] h0 (fun u h' => ((∃ t ∈ r.ts, t.a = sMin a b ∧ t.b = sMax a b ∧ u = .tuple #[.int .u8 t.k, .bool true]) ∨ (¬ tied r.ts a b ∧ u = .tuple #[.int .u8 0, .bool false])) ∧ Hs h0 h' []) := by
  have S := Hs.start w
  obtain ⟨s, B⟩ := B
  have hb := B.bk
  have hrt := B.rt
  have h256 := H.l256
  refine Fn_K rfl Tryz.func36 rfl rfl ?_
  all_goals (repeat' (first | refine K_seq ?_ | (refine K_region (id := 0) ?_; refine mv ?_; refine mv ?_; refine KO_nil ?_) | (refine K_region (id := 1) ?_; refine mv ?_)))
  (refine KO_fn rfl rfl rfl rfl rfl ((bnone_ok S.wf hb).mono ?_); rintro _ h ⟨rfl, x⟩) <;> (replace S := S.join0 x; clear x; refine KO_nil ?_)
  all_goals (repeat' (first | refine K_seq ?_ | refine k_cond rfl ?_ | refine K_skip ?_ | (refine K_region (id := 3) ?_; refine mv ?_; refine mv ?_; refine mv ?_; skip)))
  (refine KO_fn rfl rfl rfl rfl rfl ((place_ok S.wf (S.ext.get w hb) (hrt.ext w S.ext) (by omega) H.ts a b).mono ?_); rintro _ h ⟨⟨j, _ | _, rfl, p1, p2⟩, x⟩) <;> (replace S := S.join0 x; clear x; refine mv ?_; refine vl ?_; refine vl ?_; refine mv ?_; refine mv ?_; refine KO_nil ?_)
  · all_goals (repeat' (first | refine K_seq ?_ | refine k_cond rfl ?_ | (refine K_region (id := 4) ?_; refine mv ?_; refine vl ?_; refine KO_nil ?_) | (refine K_region (id := 5) ?_; refine mv ?_; refine mv ?_; refine KO_nil ?_)))
    refine K_ret ⟨_, rfl, ?_⟩
    exact ⟨.inr ⟨fun q => (by have := p2.2 ((p1.tied H.ts).1 q); cases this), rfl⟩, S⟩
  · obtain ⟨z1, z2, z3⟩ := p2.1 rfl
    skip
    all_goals (repeat' (first | refine K_seq ?_ | refine k_cond rfl ?_ | refine K_skip ?_ | (refine K_region (id := 4) ?_; refine mv ?_; refine vl ?_; refine KO_nil ?_) | (refine K_region (id := 6) ?_; refine mv ?_; refine vl ?_; refine vl ?_; refine vl ?_; refine lH S ?_; refine mv ?_; refine ixB S ?_; refine fB S ?_; refine lEB S ?_; refine mv ?_; refine mv ?_; refine KO_nil ?_)))
    refine K_ret ⟨_, rfl, ?_⟩
    exact ⟨.inl ⟨_, mem_getD z1, z2, z3, rfl⟩, S⟩
end Go.Proofs.Xx

/-
  Circles of friends.
-/
namespace Go.Proofs.Xx
open Go Go.Proofs
set_option linter.unusedSimpArgs false
set_option linter.unusedVariables false
set_option linter.unusedSectionVars false
set_option maxRecDepth 100000
set_option maxHeartbeats 4000000

def MetP (mp : List (List UInt8 × Bool)) (M : List (List UInt8)) : Prop := ∀ x, mGet mp x = if x ∈ M then some true else none
theorem MetP.put {mp : List (List UInt8 × Bool)} {M : List (List UInt8)} (h : MetP mp M) (n : List UInt8) : MetP (mPut mp n true) (M ++ [n]) := fun x => by
  rw [mGet_put, h x]
  by_cases e : x = n
  · subst e; simp
  · simp [e]
/-- Led to by ties of a kind. -/
inductive Rch (r : Rl) (k : Int) (n : List UInt8) : List UInt8 → Prop
  | refl : Rch r k n n
  | step {x y : List UInt8} (h : Rch r k n x) (a : adj r k x y) : Rch r k n y
theorem Rch.trans {r : Rl} {k : Int} {n x y : List UInt8} (h : Rch r k n x) (g : Rch r k x y) : Rch r k n y := by
  induction g with
  | refl => exact h
  | step g a ih => exact .step ih a
theorem Rch.symm {r : Rl} {k : Int} {n x : List UInt8} (h : Rch r k n x) : Rch r k x n := by
  induction h with
  | refl => exact .refl
  | step h a ih => exact Rch.trans (.step .refl a.symm) ih
/-- What a search from n adds to what is met. -/
structure Dfs (r : Rl) (M : List (List UInt8)) (n : List UInt8) (N : List (List UInt8)) : Prop where
  nd : N.Nodup
  dj : ∀ x ∈ N, x ∉ M
  self : n ∈ M ∨ n ∈ N
  kn : ∀ x ∈ N, gat r.us x ≠ none
  rc : ∀ x ∈ N, Rch r 1 n x
  cl : ∀ x ∈ N, ∀ y, adj r 1 x y → y ∈ M ∨ y ∈ N
/-- How many names are not yet met. -/
def unm (r : Rl) (M : List (List UInt8)) : Nat := ((r.us.map (·.name)).filter fun x => decide (x ∉ M)).length
def cvJ (b4 b5 b1 b6 : Nat) : Value := .func (.func 72) #[] #[.pointer (some ⟨b4, 0, none⟩), .pointer (some ⟨b5, 0, none⟩), .pointer (some ⟨b1, 0, none⟩), .pointer (some ⟨b6, 0, none⟩)]
abbrev cirR (p b4 b5 b1 b6 m : Nat) (mp : List (List UInt8 × Bool)) (v : SlV) (C : List (List UInt8)) : List Rs :=
  [.blk b4 [.map (some m)] 112, .mp m .bool mp, .blk b5 [v.val] 22, .sl v.val 9 1 eS C, .blk b1 [.pointer (some ⟨p, 0, none⟩)] 40, .blk b6 [cvJ b4 b5 b1 b6] 113]
variable [Flag]
end Go.Proofs.Xx

/-
  Circles, all of them.
-/
namespace Go.Proofs.Xx
open Go Go.Proofs
set_option linter.unusedSimpArgs false
set_option linter.unusedVariables false
set_option linter.unusedSectionVars false
set_option maxRecDepth 100000
set_option maxHeartbeats 4000000

/-- Words of a row of rows. -/
structure Wd where
  sv : SlV
  ws : List (List UInt8)
instance : Inhabited Wd := ⟨⟨⟨none, 0, 0⟩, []⟩⟩
def eWd (w : Wd) : List Value := [w.sv.val]
def WdsOk (cs : List Wd) (h : AH) (fp : Fp) : Prop := ∀ w ∈ cs, (Rs.rd w.sv.val 1 eS w.ws).ok h fp
abbrev wdR (cs : List Wd) : Rs := .any (WdsOk cs)
theorem WdsOk.rd {h : AH} {fp : Fp} {cs : List Wd} (k : WdsOk cs h fp) {i : Nat} (hi : i < cs.length) : RdL h (cs.getD i default).sv.val 1 eS (cs.getD i default).ws := by
  have q := k _ (mem_getD hi)
  rcases q with ⟨q1, q2⟩ | ⟨b, o, cap, cc, e, s, r, q1, q2, q3, q4⟩
  · exact .inl ⟨q1, by rw [q2]; rfl, by rw [q2]; rfl⟩
  · exact .inr ⟨b, o, cap, cc, e, s, r, q1, q2, q4⟩
/-- The circles, in order. -/
structure CirOk (r : Rl) (L : List Wd) : Prop where
  ss : ∀ w ∈ L, SS w.ws ∧ w.ws ≠ [] ∧ ∀ x, x ∈ w.ws ↔ (gat r.us (w.ws.getD 0 default) ≠ none ∧ Rch r 1 (w.ws.getD 0 default) x)
  hd : ∀ i j, i < j → j < L.length → sLt ((L.getD i default).ws.getD 0 default) ((L.getD j default).ws.getD 0 default)
theorem Rch.known {r : Rl} (H : RO r) {k : Int} {n x : List UInt8} (h : Rch r k n x) (hn : gat r.us n ≠ none) : gat r.us x ≠ none := by
  induction h with
  | refl => exact hn
  | step h a ih => exact (adj_known H a).2.1
theorem Rch.closed {r : Rl} {k : Int} {n x : List UInt8} {M : List UInt8 → Prop} (h : Rch r k n x) (hn : M n) (hc : ∀ x, M x → ∀ y, adj r k x y → M y) : M x := by
  induction h with
  | refl => exact hn
  | step h a ih => exact hc _ ih _ a
theorem SS.le {l : List (List UInt8)} (h : SS l) {i j : Nat} (hij : i ≤ j) (hj : j < l.length) : ¬ sLt (l.getD j default) (l.getD i default) := by
  rcases Nat.lt_or_ge i j with q | q
  · exact sLt_asymm (h i j q hj)
  · obtain rfl : i = j := by omega
    exact sLt_irr _
abbrev cirS (p b4 b5 b1 b6 m : Nat) (mp : List (List UInt8 × Bool)) (vc : SlV) (u : Value) (ns : List (List UInt8)) (v3 : Value) (cs : List Wd) : List Rs :=
  [.sl u 9 1 eS ns, .blk b4 [.map (some m)] 112, .mp m .bool mp, .blk b5 [vc.val] 22, .blk b1 [.pointer (some ⟨p, 0, none⟩)] 40, .blk b6 [cvJ b4 b5 b1 b6] 113, .sl v3 22 1 eWd cs, wdR cs]
/-- What holds while the names are gone through. -/
structure CirI (r : Rl) (ns : List (List UInt8)) (i : Nat) (M : List (List UInt8)) (cs : List Wd) : Prop where
  mem : ∀ x, x ∈ M ↔ ∃ w ∈ cs, x ∈ w.ws
  cl : ∀ x ∈ M, ∀ y, adj r 1 x y → y ∈ M
  nm : ∀ j, j < i → ns.getD j default ∈ M
  ok : CirOk r cs
  hd : ∀ j, j < cs.length → ∃ k, k < i ∧ (cs.getD j default).ws.getD 0 default = ns.getD k default
  ln : cs.length ≤ i
theorem CirI.next {r : Rl} (H : RO r) {ns : List (List UInt8)} (hs : SS ns) (hns : ∀ x, x ∈ ns ↔ gat r.us x ≠ none) {i : Nat} (hi : i < ns.length) {M N N' : List (List UInt8)} {cs : List Wd} {v : SlV} (I : CirI r ns i M cs) (D : Dfs r M (ns.getD i default) N) (hn : ns.getD i default ∉ M) (hS : SS N') (hN : ∀ x, x ∈ N' ↔ x ∈ N) : CirI r ns (i + 1) (M ++ N) (cs ++ [⟨v, N'⟩]) := by
  have hk : gat r.us (ns.getD i default) ≠ none := (hns _).1 (mem_getD hi)
  have hself : ns.getD i default ∈ N := D.self.elim (fun q => absurd q hn) id
  have hcomp : ∀ x, Rch r 1 (ns.getD i default) x → x ∈ N := fun x hx => by
    have : x ∈ M ∨ x ∈ N := hx.closed (M := fun x => x ∈ M ∨ x ∈ N) (.inr hself) fun x h y a => by
      rcases h with h | h
      · exact .inl (I.cl x h y a)
      · exact D.cl x h y a
    rcases this with q | q
    · exact absurd (hx.symm.closed (M := fun x => x ∈ M) q I.cl) hn
    · exact q
  have hlen : 0 < N'.length := List.length_pos_of_mem ((hN _).2 hself)
  have h0 : N'.getD 0 default = ns.getD i default := by
    obtain ⟨j, j1, j2⟩ := mem_iff_getD.1 ((hN _).2 hself)
    have le1 := hS.le (Nat.zero_le j) j1
    rw [j2] at le1
    have hm0 := (hN _).1 (mem_getD hlen)
    obtain ⟨k, k1, k2⟩ := mem_iff_getD.1 ((hns _).2 (D.kn _ hm0))
    have hki : i ≤ k := by
      apply Classical.byContradiction
      intro q
      exact D.dj _ hm0 (k2 ▸ I.nm k (by omega))
    have le2 := hs.le hki k1
    rw [k2] at le2
    rcases sLe_of le1 with q | q
    · exact q
    · exact absurd q le2
  refine ⟨fun x => ?_, fun x hx y a => ?_, nxtD (fun j hj => List.mem_append.2 (.inl (I.nm j hj))) (List.mem_append.2 (.inr hself)), ⟨fun w hw => ?_, fun j k hjk hk2 => ?_⟩, fun j hj => ?_, by simp; exact I.ln⟩
  · rw [List.mem_append, I.mem]
    constructor
    · rintro (⟨w, h1, h2⟩ | h)
      · exact ⟨w, by simp [h1], h2⟩
      · exact ⟨⟨v, N'⟩, by simp, (hN x).2 h⟩
    · rintro ⟨w, h1, h2⟩
      rcases List.mem_append.1 h1 with q | q
      · exact .inl ⟨w, q, h2⟩
      · rw [List.mem_singleton.1 q] at h2; exact .inr ((hN x).1 h2)
  · rw [List.mem_append] at hx ⊢
    rcases hx with q | q
    · exact .inl (I.cl x q y a)
    · exact D.cl x q y a
  · rcases List.mem_append.1 hw with q | q
    · exact I.ok.ss w q
    · rw [List.mem_singleton.1 q]
      refine ⟨hS, fun e => ?_, fun x => ?_⟩
      · simp only at e; rw [e] at hlen; exact absurd hlen (by simp)
      · simp only [h0, hN]
        exact ⟨fun h => ⟨hk, D.rc x h⟩, fun h => hcomp x h.2⟩
  · simp only [List.length_append, List.length_singleton] at hk2
    rw [gA1 (show j < cs.length by omega)]
    rcases Nat.lt_or_ge k cs.length with q | q
    · rw [gA1 q]; exact I.ok.hd j k hjk q
    · rw [gA2 q, show k - cs.length = 0 by omega]
      show sLt _ (N'.getD 0 default)
      rw [h0]
      obtain ⟨z, z1, z2⟩ := I.hd j (by omega)
      rw [z2]; exact hs z i z1 hi
  · simp only [List.length_append, List.length_singleton] at hj
    rcases Nat.lt_or_ge j cs.length with q | q
    · obtain ⟨z, z1, z2⟩ := I.hd j q
      exact ⟨z, by omega, by rw [gA1 q]; exact z2⟩
    · rw [gA2 q, show j - cs.length = 0 by omega]
      exact ⟨i, by omega, h0⟩
variable [Flag]
end Go.Proofs.Xx

/-
  BookCircles.
-/
namespace Go.Proofs.Xx
open Go Go.Proofs
set_option linter.unusedSimpArgs false
set_option linter.unusedVariables false
set_option linter.unusedSectionVars false
set_option maxRecDepth 100000
set_option maxHeartbeats 4000000

theorem CirOk.same {r : Rl} (H : RO r) {cs : List Wd} (C : CirOk r cs) {i j : Nat} (hi : i < cs.length) (hj : j < cs.length) {x : List UInt8} (h1 : x ∈ (cs.getD i default).ws) (h2 : x ∈ (cs.getD j default).ws) : i = j := by
  have key : ∀ i j, i < cs.length → j < cs.length → x ∈ (cs.getD i default).ws → x ∈ (cs.getD j default).ws → ¬ sLt ((cs.getD j default).ws.getD 0 default) ((cs.getD i default).ws.getD 0 default) := fun i j hi hj h1 h2 => by
    obtain ⟨a1, a2, a3⟩ := C.ss _ (mem_getD hi)
    obtain ⟨b1, b2, b3⟩ := C.ss _ (mem_getD hj)
    obtain ⟨k1, r1⟩ := (a3 x).1 h1
    obtain ⟨k2, r2⟩ := (b3 x).1 h2
    have hm : (cs.getD j default).ws.getD 0 default ∈ (cs.getD i default).ws := (a3 _).2 ⟨k1, r1.trans r2.symm⟩
    obtain ⟨z, z1, z2⟩ := mem_iff_getD.1 hm
    have := a1.le (Nat.zero_le z) z1
    rwa [z2] at this
  rcases Nat.lt_trichotomy i j with q | q | q
  · exact absurd (C.hd i j q hj) (key j i hj hi h2 h1)
  · exact q
  · exact absurd (C.hd j i q hi) (key i j hi hj h1 h2)
theorem Rch.alone {r : Rl} {k : Int} {n x : List UInt8} (h : Rch r k n x) (hno : ∀ y, ¬ adj r k n y) : x = n := by
  induction h with
  | refl => rfl
  | step h a ih => rw [ih] at a; exact absurd a (hno _)
/-- How many stand in the first circles. -/
def tot (cs : List Wd) (i : Nat) : Nat := ((cs.take i).flatMap (·.ws)).length
theorem CirOk.nodup {r : Rl} (H : RO r) {cs : List Wd} (C : CirOk r cs) (i : Nat) : ((cs.take i).flatMap (·.ws)).Nodup := by
  rw [List.Nodup, List.pairwise_flatMap]
  refine ⟨fun w hw => (C.ss w (List.mem_of_mem_take hw)).1.nodup, ?_⟩
  rw [List.pairwise_iff_getElem]
  intro a b ha hb hab x hx y hy e
  subst e
  simp only [List.length_take] at ha hb
  have ea : (cs.take i)[a] = cs.getD a default := by rw [List.getElem_take, List.getD_eq_getElem?_getD, List.getElem?_eq_getElem (show a < cs.length by omega)]; rfl
  have eb : (cs.take i)[b] = cs.getD b default := by rw [List.getElem_take, List.getD_eq_getElem?_getD, List.getElem?_eq_getElem (show b < cs.length by omega)]; rfl
  rw [ea] at hx
  rw [eb] at hy
  have := C.same H (show a < cs.length by omega) (show b < cs.length by omega) hx hy
  omega
theorem CirOk.tot_le {r : Rl} (H : RO r) {cs : List Wd} (C : CirOk r cs) (i : Nat) : tot cs i ≤ r.us.length := by
  have := nodup_leM (C.nodup H i) (m := r.us.map (·.name)) fun x hx => by
    obtain ⟨w, w1, w2⟩ := List.mem_flatMap.1 hx
    obtain ⟨-, -, w3⟩ := C.ss w (List.mem_of_mem_take w1)
    obtain ⟨k, rc⟩ := (w3 x).1 w2
    exact gat_name (rc.known H k)
  rwa [List.length_map] at this
theorem CirOk.tot {r : Rl} (H : RO r) {cs : List Wd} (C : CirOk r cs) (hall : ∀ x, gat r.us x ≠ none → ∃ w ∈ cs, x ∈ w.ws) : Xx.tot cs cs.length = r.us.length := by
  have h1 := C.tot_le H cs.length
  have hn : (r.us.map (·.name)).Nodup := by
    rw [List.Nodup, List.pairwise_iff_getElem]
    intro i j hi hj hij
    simp only [List.length_map] at hi hj
    have := H.nd i j hij hj
    rw [List.getD_eq_getElem?_getD, List.getD_eq_getElem?_getD, List.getElem?_eq_getElem hj, List.getElem?_eq_getElem hi] at this
    simpa using this
  have h2 := nodup_leM hn (m := (cs.take cs.length).flatMap (·.ws)) fun x hx => by
    obtain ⟨g, g1, g2⟩ := List.mem_map.1 hx
    obtain ⟨w, w1, w2⟩ := hall x (gat_mem.2 ⟨g, g1, g2⟩)
    rw [List.take_length]
    exact List.mem_flatMap.2 ⟨w, w1, w2⟩
  rw [List.length_map] at h2
  unfold Xx.tot at *
  omega
variable [Flag]
theorem book_ok {h0 : AH} (w : WfH h0) (v : RlV) (r : Rl) (H : RlOk h0 v r) (hv : RO r) : Fn Tryz.prog Xh 24 [v.val] h0 (fun u h' => ∃ p, u = .tuple #[.pointer (some ⟨p, 0, none⟩), .bool true] ∧ Hs h0 h' [bookR p r]) := by
  have S := Hs.start w
  unfold RlV.val
  refine Fn_K rfl Tryz.func24 rfl rfl ?_
  all_goals (repeat' (first | refine K_seq ?_ | refine k_cond rfl ?_ | refine K_skip ?_ | refine K_exit ?_ | refine k_block ?_ | refine K_scope ?_ | refine K_label ?_ | (refine K_region (id := 0) ?_; (refine bx S ?_; clear S; intro b h S); refine mv ?_; refine mv ?_; refine KO_nil ?_) | (refine K_region (id := 1) ?_; (first | refine lB S rfl rfl ?_ | refine lES2 S rfl rfl ?_ | refine lEB S ?_ | refine lH S ?_))))
  (refine KO_fn rfl rfl rfl rfl rfl ((load_ok S.wf v r (H.ext w S.ext)).mono ?_); rintro _ h (⟨p, rfl, x1, x⟩ | ⟨i, e, rfl, hb, x⟩)) <;> (refine mv ?_; refine vl ?_; refine vl ?_; refine vl ?_; refine mv ?_; refine mv ?_; refine mv ?_; refine KO_nil ?_)
  · replace S := S.join x
    all_goals (repeat' (first | refine K_seq ?_ | refine k_cond rfl ?_ | refine K_skip ?_ | refine K_exit ?_ | refine k_block ?_ | refine K_scope ?_ | refine K_label ?_ | (refine K_region (id := 2) ?_; refine mv ?_; refine mv ?_; refine vl ?_; refine mv ?_; (first | refine off ?_ | refine mv ?_); (first | refine off ?_ | (first | refine cT ?_ | refine cF ?_ | (refine cS ?_ ?_ <;> intro hc))) <;> (refine vl ?_; refine mv ?_; (first | refine off ?_ | refine mv ?_); (first | refine off ?_ | (first | refine cT ?_ | refine cF ?_ | (refine cS ?_ ?_ <;> intro hc))) <;> (refine vl ?_; refine mv ?_; refine mv ?_; refine KO_nil ?_)))))
    refine K_ret ⟨_, rfl, ?_⟩
    exact ⟨p, rfl, S.only .here⟩
  · exact absurd (VRl_iff.2 hv) hb.not
end Go.Proofs.Xx

/-
  Numbers among the arguments; cores of the laws of rolls of numbers.
-/
namespace Go.Proofs.Xx
open Go Go.Proofs
set_option linter.unusedSimpArgs false
set_option linter.unusedVariables false
set_option linter.unusedSectionVars false
set_option maxRecDepth 100000

theorem AR.e16s {h : AH} {n : Nat} {r : List Value} (a : AR Tryz.prog h n 37 r) : ∃ v l, r = [v] ∧ RdL h v 1 e16 l ∧ l.length ≤ maxLen ∧ CapOk v ∧ ∀ i, i < l.length → l.getD i default < 65536 :=
  AR.slice1 (e := 107) (z := 1) e16 (fun x => x < 65536) a (by kernel_rfl) (by kernel_rfl) (fun n cs q => by
    obtain ⟨x, hx, hw⟩ := q.int1 (k := .u16) (by kernel_rfl)
    have : 0 ≤ x ∧ x < 65536 := by
      simp [Lit.wf, IntKind.min, IntKind.max, IntKind.signed, IntKind.bits] at hw
      omega
    refine ⟨x.toNat, ?_, by omega⟩
    rw [hx]; unfold e16; rw [Int.toNat_of_nonneg this.1])
theorem AR.e8s {h : AH} {n : Nat} {r : List Value} (a : AR Tryz.prog h n 38 r) : ∃ v l, r = [v] ∧ RdL h v 1 eU l ∧ l.length ≤ maxLen ∧ CapOk v ∧ ∀ i, i < l.length → l.getD i default < 256 :=
  AR.bytes1 (e := 5) a (by kernel_rfl) (by kernel_rfl) (by kernel_rfl)
end Go.Proofs.Xx

/-
  Rolls compared; a book's roll.
-/
namespace Go.Proofs.Xx
open Go Go.Proofs
set_option linter.unusedSimpArgs false
set_option linter.unusedVariables false
set_option linter.unusedSectionVars false
set_option maxRecDepth 100000
set_option maxHeartbeats 4000000

section
variable {P : Program} {X : Extern} {sz : Nat} {L : Ks} {h h0 : AH} {rs : List Rs} {ops : Array Oper} {os : List Oper} {o : Oper} {R : Ks → AH → Prop}
/-- Two truths compared. -/
theorem bE {L1 L2 : Ks} {x y : Operand} {ty ty2 : TypeId} {a b : Bool} (w1 : a = b → KO P X sz ops os L1 h R) (w2 : ¬ a = b → KO P X sz ops os L2 h R) (ho : o.op = .binOp .eql ty x y ty2 := by exact rfl) (hg : guardA ops L.tree o.guard = some true := by exact rfl) (hx : kA L x = some (.bool a) := by exact rfl) (hy : kA L y = some (.bool b) := by exact rfl) (hu : P.underlying ty = some .bool := by exact rfl)
    (hp1 : putK sz L o.dst (.bool true) = some L1 := by exact rfl) (hp2 : putK sz L o.dst (.bool false) = some L2 := by exact rfl) : KO P X sz ops (o :: os) L h R := by
  by_cases p : a = b
  · subst p; exact KO_bin ho hg hx hy (v := .bool true) (by cases a <;> simp [aBin, hu]) hp1 (w1 rfl)
  · exact KO_bin ho hg hx hy (v := .bool false) (by cases a <;> cases b <;> first | exact absurd rfl p | simp [aBin, hu]) hp2 (w2 p)
end
theorem eq_getD {α : Type} [Inhabited α] {l m : List α} (hl : l.length = m.length) (h : ∀ i, i < l.length → l.getD i default = m.getD i default) : l = m := by
  apply List.ext_getElem hl
  intro i h1 h2
  have := h i h1
  rwa [List.getD_eq_getElem?_getD, List.getD_eq_getElem?_getD, List.getElem?_eq_getElem h1, List.getElem?_eq_getElem h2] at this
theorem tiEq (a b : Ti) : (eqBytes ⟨a.a.toArray⟩ ⟨b.a.toArray⟩ && (eqBytes ⟨a.b.toArray⟩ ⟨b.b.toArray⟩ && (a.k == b.k && true))) = true ↔ a = b := by
  rw [eqBytes_str, eqBytes_str]
  cases a; cases b
  simp
theorem Star.snoc {h : AH} {r : Rs} {fp : Fp} (hr : r.ok h fp) : ∀ {l : List Rs} {U : Fp}, Star h l U → (∀ b, fp b → ¬ U b) → Star h (l ++ [r]) (fun b => U b ∨ fp b)
  | [], U, _, _ => ⟨fp, hr, fun b hb => .inr hb, trivial⟩
  | x :: l, U, ⟨fx, h1, h2, h3⟩, hd => ⟨fx, h1, fun b hb => .inl (h2 b hb), (Star.snoc hr h3 fun b hb q => hd b hb q.1).mono fun b hb => by
      rcases hb with hb | hb
      · exact ⟨.inl hb.1, hb.2⟩
      · exact ⟨.inr hb, fun q => hd b hb (h2 b q)⟩⟩
abbrev slOf (g : Gst) : Rs := .sl g.tv.val 9 1 eS g.tg
/-- The tongues of all guests, each one's own. -/
abbrev tgO (gs : List Gst) : Rs := .any (fun h fp => Star h (gs.map slOf) fp)
theorem Hs.tgOapp {h0 h : AH} {rs : List Rs} {gs : List Gst} {g : Gst} (S : Hs h0 h (.sl g.tv.val 9 1 eS g.tg :: tgO gs :: rs)) : Hs h0 h (tgO (gs ++ [g]) :: rs) := by
  obtain ⟨f1, k1, k2, f2, k3, k4, k5⟩ := S.sep
  refine ⟨S.ext, fun b => f2 b ∨ f1 b, fun h' q => ?_, fun b hb => ?_, k5.mono fun b hb => ⟨trivial, fun q => ?_⟩⟩
  · rw [List.map_append]
    exact Star.snoc (k1.local fun b hb => q b (.inr hb)) (k3 h' fun b hb => q b (.inl hb)) fun b hb q => (k4 b q).2.2.2 hb
  · rcases hb with hb | hb
    · exact ⟨(k4 b hb).1, (k4 b hb).2.1, trivial⟩
    · exact k2 b hb
  · rcases q with q | q
    · exact hb.2 q
    · exact hb.1.2 q
theorem Star.get {h : AH} {r : Rs} : ∀ {l : List Rs} {U : Fp}, Star h l U → r ∈ l → ∃ fp, r.ok h fp
  | x :: l, U, ⟨fx, h1, h2, h3⟩, hr => by
    rcases List.mem_cons.1 hr with rfl | hr
    · exact ⟨fx, h1⟩
    · exact Star.get h3 hr
theorem sl_rdL {α : Type} {v : Value} {e : TypeId} {z : Nat} {enc : α → List Value} {l : List α} {h : AH} {fp : Fp} (k : (Rs.sl v e z enc l).ok h fp) : RdL h v z enc l := by
  rcases k with ⟨rfl, rfl⟩ | ⟨b, o, cc, slk, cap, h1, h2, h3, h4, -⟩
  · exact .inl ⟨rfl, rfl, rfl⟩
  · exact .inr ⟨b, o, _, cc, e, slk, false, h1, h2, h4⟩
/-- A roll of one's own. -/
abbrev rolL (v : RlV) (ts : List Ti) : List Rs := [.sl v.vg.val 24 9 eG v.gs, .sl v.vt.val 111 3 eTi ts, tgO v.gs]
theorem Hs.rlOk {h0 h : AH} {rs : List Rs} {v : RlV} {r : Rl} (S : Hs h0 h (rolL v r.ts ++ rs)) (hu : v.gs.map (·.toGu) = r.us) (h1 : r.us.length ≤ 9223372036854775807) (h2 : r.ts.length ≤ 9223372036854775807) (h3 : ∀ g ∈ r.us, g.tg.length ≤ 9223372036854775807) : RlOk h v r := by
  obtain ⟨fp, k⟩ := Hs.anyP (p := fun h fp => Star h (v.gs.map slOf) fp) S (.there (.there .here))
  refine ⟨Rd.of_sl S .here, Rd.of_sl S (.there .here), fun i hi => ⟨?_, ?_⟩, hu, h1, h2⟩
  · obtain ⟨fq, q⟩ := k.get (List.mem_map.2 ⟨_, mem_getD hi, rfl⟩)
    exact sl_rdL q
  · exact h3 _ (by rw [← hu]; exact List.mem_map.2 ⟨_, mem_getD hi, rfl⟩)
variable [Flag]
theorem sameWords_ok {h0 : AH} (w : WfH h0) (v u : Value) (l m : List (List UInt8)) (rv : RdL h0 v 1 eS l) (ru : RdL h0 u 1 eS m) (hl : l.length ≤ 9223372036854775807) (hm : m.length ≤ 9223372036854775807) : Fn Tryz.prog Xh 60 [v, u] h0 (fun x h' => BoolIs x (l = m) ∧ Hs h0 h' []) := by
  have S := Hs.start w
  refine Fn_K rfl Tryz.func60 rfl rfl ?_
  all_goals (repeat' (first | refine K_seq ?_ | refine k_cond rfl ?_ | refine K_skip ?_ | refine k_block ?_ | (refine K_region (id := 0) ?_; refine mv ?_; refine KO_nil ?_) | (refine K_region (id := 1) ?_; refine mv ?_; refine lnB S ?_; refine mv ?_; refine lnB S ?_; (first | (refine cS ?_ ?_ <;> intro hc)) <;> (refine KO_nil ?_)) | (refine K_region (id := 2) ?_; refine mv ?_; refine KO_nil ?_) | (refine K_region (id := 3) ?_; refine mv ?_; refine KO_nil ?_)))
  · refine K_ret ⟨_, rfl, ?_⟩
    exact ⟨.inr ⟨rfl, fun q => by subst q; exact hc rfl⟩, S⟩
  · refine k_loop (σ := Nat) (fun i h' => Hs h0 h' [] ∧ i ≤ l.length ∧ ∀ j, j < i → l.getD j default = m.getD j default) (fun i => l.length - i) (fun i => [(0, v), (1, u), (5, .int .i64 i)]) 0 (by repeat (first | exact Ks.le_nil _ | refine Ks.le_cons rfl ?_)) ?_ ?_
    · exact ⟨S, Nat.zero_le _, fun j hj => absurd hj (Nat.not_lt_zero _)⟩
    clear S
    rintro i h ⟨S, g1, g2⟩
    all_goals (repeat' (first | refine K_seq ?_ | refine k_cond rfl ?_ | refine K_skip ?_ | refine K_exit ?_ | refine k_block ?_ | (refine K_region (id := 4) ?_; refine mv ?_; refine mv ?_; refine lnB S ?_; (first | (refine cS ?_ ?_ <;> intro hc)) <;> (refine KO_nil ?_)) | (refine K_region (id := 5) ?_; refine mv ?_; refine ad ?_; refine mv ?_; refine KO_nil ?_) | (refine K_draw (id := 6) ?_; refine mv ?_; refine mv ?_; refine ixB S ?_; refine lEB S ?_; refine mv ?_; refine mv ?_; refine ixB S ?_; refine lEB S ?_; (refine tS ?_ ?_ <;> intro hc) <;> (refine KO_nil ?_)) | (refine K_region (id := 7) ?_; refine mv ?_; refine KO_nil ?_) | (refine K_region (id := 8) ?_; refine mv ?_; refine KO_nil ?_)))
    all_goals (try simp only [Int.toNat_natCast] at *)
    · refine ⟨i + 1, ?_, ?_, (by repeat (first | exact Ks.le_nil _ | refine Ks.le_cons rfl ?_))⟩
      · show l.length - (i + 1) < l.length - i; omega
      · exact ⟨S, by omega, nxtD g2 hc⟩
    · refine K_ret ⟨_, rfl, ?_⟩
      exact ⟨.inr ⟨rfl, fun q => by subst q; exact hc rfl⟩, S⟩
    · refine K_ret ⟨_, rfl, ?_⟩
      exact ⟨.inl ⟨rfl, eq_getD (by omega) fun j hj => g2 j (by omega)⟩, S⟩
theorem sameTies_ok {h0 : AH} (w : WfH h0) (v u : Value) (l m : List Ti) (rv : RdL h0 v 3 eTi l) (ru : RdL h0 u 3 eTi m) (hl : l.length ≤ 9223372036854775807) (hm : m.length ≤ 9223372036854775807) : Fn Tryz.prog Xh 68 [v, u] h0 (fun x h' => BoolIs x (l = m) ∧ Hs h0 h' []) := by
  have S := Hs.start w
  refine Fn_K rfl Tryz.func68 rfl rfl ?_
  all_goals (repeat' (first | refine K_seq ?_ | refine k_cond rfl ?_ | refine K_skip ?_ | refine k_block ?_ | (refine K_region (id := 0) ?_; refine mv ?_; refine KO_nil ?_) | (refine K_region (id := 1) ?_; refine mv ?_; refine lnB S ?_; refine mv ?_; refine lnB S ?_; (first | (refine cS ?_ ?_ <;> intro hc)) <;> (refine KO_nil ?_)) | (refine K_region (id := 2) ?_; refine mv ?_; refine KO_nil ?_) | (refine K_region (id := 3) ?_; refine mv ?_; refine KO_nil ?_)))
  · refine K_ret ⟨_, rfl, ?_⟩
    exact ⟨.inr ⟨rfl, fun q => by subst q; exact hc rfl⟩, S⟩
  · refine k_loop (σ := Nat) (fun i h' => Hs h0 h' [] ∧ i ≤ l.length ∧ ∀ j, j < i → l.getD j default = m.getD j default) (fun i => l.length - i) (fun i => [(0, v), (1, u), (5, .int .i64 i)]) 0 (by repeat (first | exact Ks.le_nil _ | refine Ks.le_cons rfl ?_)) ?_ ?_
    · exact ⟨S, Nat.zero_le _, fun j hj => absurd hj (Nat.not_lt_zero _)⟩
    clear S
    rintro i h ⟨S, g1, g2⟩
    all_goals (repeat' (first | refine K_seq ?_ | refine k_cond rfl ?_ | refine K_skip ?_ | refine K_exit ?_ | refine k_block ?_ | (refine K_region (id := 4) ?_; refine mv ?_; refine mv ?_; refine lnB S ?_; (first | (refine cS ?_ ?_ <;> intro hc)) <;> (refine KO_nil ?_)) | (refine K_region (id := 5) ?_; refine mv ?_; refine ad ?_; refine mv ?_; refine KO_nil ?_) | (refine K_draw (id := 6) ?_; refine mv ?_; refine mv ?_; refine ixB S ?_; refine lEB S ?_; refine mv ?_; refine mv ?_; refine ixB S ?_; refine lEB S ?_; (refine gE ?_ ?_ <;> intro hc) <;> (refine KO_nil ?_)) | (refine K_region (id := 7) ?_; refine mv ?_; refine KO_nil ?_) | (refine K_region (id := 8) ?_; refine mv ?_; refine KO_nil ?_)))
    all_goals (try simp only [Int.toNat_natCast] at *)
    · refine ⟨i + 1, ?_, ?_, (by repeat (first | exact Ks.le_nil _ | refine Ks.le_cons rfl ?_))⟩
      · show l.length - (i + 1) < l.length - i; omega
      · exact ⟨S, by omega, nxtD g2 ((tiEq _ _).1 hc)⟩
    · refine K_ret ⟨_, rfl, ?_⟩
      exact ⟨.inr ⟨rfl, fun q => by subst q; rw [(tiEq _ _).2 rfl] at hc; cases hc⟩, S⟩
    · refine K_ret ⟨_, rfl, ?_⟩
      exact ⟨.inl ⟨rfl, eq_getD (by omega) fun j hj => g2 j (by omega)⟩, S⟩
theorem sameGuest_ok {h0 : AH} (w : WfH h0) (g k : Gst) (rg : RdL h0 g.tv.val 1 eS g.tg) (rk : RdL h0 k.tv.val 1 eS k.tg) (hg : g.tg.length ≤ 9223372036854775807) (hk : k.tg.length ≤ 9223372036854775807) : Fn Tryz.prog Xh 62 [gV g, gV k] h0 (fun x h' => BoolIs x (g.toGu = k.toGu) ∧ Hs h0 h' []) := by
  have S := Hs.start w
  obtain ⟨⟨n1, n2, n3, n4, n5, n6, n7, n8, n9⟩, n10⟩ := g
  obtain ⟨⟨m1, m2, m3, m4, m5, m6, m7, m8, m9⟩, m10⟩ := k
  unfold gV
  dsimp only at *
  refine Fn_K rfl Tryz.func62 rfl rfl ?_
  skip
  all_goals (repeat' (first | refine K_seq ?_ | (refine K_region (id := 0) ?_; (refine bx S ?_; clear S; intro b h S); (refine bx S ?_; clear S; intro b h S); refine mv ?_; refine KO_nil ?_) | (refine K_region (id := 1) ?_; refine vl ?_; refine lB S rfl rfl ?_; refine vl ?_; refine lB S rfl rfl ?_; (refine tS ?_ ?_ <;> intro hc) <;> (refine mv ?_; (first | refine off ?_ | (refine vl ?_)); (first | refine off ?_ | (refine lB S rfl rfl ?_)); (first | refine off ?_ | (refine vl ?_)); (first | refine off ?_ | (refine lB S rfl rfl ?_)); (first | refine off ?_ | (refine tS ?_ ?_ <;> intro hc)) <;> (refine vl ?_; refine mv ?_; (first | refine off ?_ | (refine vl ?_)); (first | refine off ?_ | (refine lB S rfl rfl ?_)); (first | refine off ?_ | (refine vl ?_)); (first | refine off ?_ | (refine lB S rfl rfl ?_)); (first | refine off ?_ | (refine tS ?_ ?_ <;> intro hc)) <;> (refine vl ?_; refine mv ?_; (first | refine off ?_ | (refine vl ?_)); (first | refine off ?_ | (refine lB S rfl rfl ?_)); (first | refine off ?_ | (refine vl ?_)); (first | refine off ?_ | (refine lB S rfl rfl ?_)); (first | refine off ?_ | (first | (refine cS ?_ ?_ <;> intro hc))) <;> (refine vl ?_; refine mv ?_; (first | refine off ?_ | (refine vl ?_)); (first | refine off ?_ | (refine lB S rfl rfl ?_)); (first | refine off ?_ | (refine vl ?_)); (first | refine off ?_ | (refine lB S rfl rfl ?_)); (first | refine off ?_ | (first | (refine cS ?_ ?_ <;> intro hc))) <;> (refine vl ?_; refine mv ?_; (first | refine off ?_ | (refine vl ?_)); (first | refine off ?_ | (refine lB S rfl rfl ?_)); (first | refine off ?_ | (refine vl ?_)); (first | refine off ?_ | (refine lB S rfl rfl ?_)); (first | refine off ?_ | (refine tS ?_ ?_ <;> intro hc)) <;> (refine vl ?_; refine mv ?_; (first | refine off ?_ | (refine vl ?_)); (first | refine off ?_ | (refine lB S rfl rfl ?_)); (first | refine off ?_ | (refine vl ?_)); (first | refine off ?_ | (refine lB S rfl rfl ?_)); (first | refine off ?_ | (refine bE ?_ ?_ <;> intro hc)) <;> (refine vl ?_; refine mv ?_; (first | refine off ?_ | (refine vl ?_)); (first | refine off ?_ | (refine lB S rfl rfl ?_)); (first | refine off ?_ | (refine vl ?_)); (first | refine off ?_ | (refine lB S rfl rfl ?_)); (first | refine off ?_ | (refine bE ?_ ?_ <;> intro hc)) <;> (refine vl ?_; refine mv ?_; (first | refine off ?_ | (refine vl ?_)); (first | refine off ?_ | (refine lB S rfl rfl ?_)); (first | refine off ?_ | (refine vl ?_)); (first | refine off ?_ | (refine lB S rfl rfl ?_)); (first | (refine off ?_; refine vl ?_; refine mv ?_; refine KO_nil ?_) | skip))))))))))))
  · (refine KO_fn rfl rfl rfl rfl rfl ((sameWords_ok S.wf n10.val m10.val n9 m9 (rg.ext w S.ext) (rk.ext w S.ext) hg hk).mono ?_); rintro _ h ⟨⟨rfl, z⟩ | ⟨rfl, z⟩, x⟩) <;> (replace S := S.join0 x; clear x; refine vl ?_; refine mv ?_; refine KO_nil ?_)
    · all_goals (repeat' (fail))
      refine K_ret ⟨_, rfl, ?_⟩
      refine ⟨.inl ⟨rfl, ?_⟩, S.drop⟩
      simp only [Gu.mk.injEq]
      exact ⟨by assumption, by assumption, by assumption, by assumption, by assumption, by assumption, by assumption, by assumption, z⟩
    · all_goals (repeat' (fail))
      refine K_ret ⟨_, rfl, ?_⟩
      refine ⟨.inr ⟨rfl, fun q => ?_⟩, S.drop⟩
      simp only [Gu.mk.injEq] at q
      exact z q.2.2.2.2.2.2.2.2
  all_goals
    refine K_ret ⟨_, rfl, ?_⟩
    refine ⟨.inr ⟨rfl, fun q => ?_⟩, S.drop⟩
    simp only [Gu.mk.injEq] at q
    exact absurd (by first | exact q.1 | exact q.2.1 | exact q.2.2.1 | exact q.2.2.2.1 | exact q.2.2.2.2.1 | exact q.2.2.2.2.2.1 | exact q.2.2.2.2.2.2.1 | exact q.2.2.2.2.2.2.2.1) hc
theorem sameGuests_ok {h0 : AH} (w : WfH h0) (v u : Value) (gs ks : List Gst) (rv : RdL h0 v 9 eG gs) (ru : RdL h0 u 9 eG ks) (tv : ∀ i, i < gs.length → RdL h0 (gs.getD i default).tv.val 1 eS (gs.getD i default).tg ∧ (gs.getD i default).tg.length ≤ 9223372036854775807) (tu : ∀ i, i < ks.length → RdL h0 (ks.getD i default).tv.val 1 eS (ks.getD i default).tg ∧ (ks.getD i default).tg.length ≤ 9223372036854775807) (hl : gs.length ≤ 9223372036854775807) (hm : ks.length ≤ 9223372036854775807) :
    Fn Tryz.prog Xh 67 [v, u] h0 (fun x h' => BoolIs x (gs.map (·.toGu) = ks.map (·.toGu)) ∧ Hs h0 h' []) := by
  have S := Hs.start w
  refine Fn_K rfl Tryz.func67 rfl rfl ?_
  all_goals (repeat' (first | refine K_seq ?_ | refine k_cond rfl ?_ | refine K_skip ?_ | refine k_block ?_ | (refine K_region (id := 0) ?_; refine mv ?_; refine KO_nil ?_) | (refine K_region (id := 1) ?_; refine mv ?_; refine lnB S ?_; refine mv ?_; refine lnB S ?_; (first | (refine cS ?_ ?_ <;> intro hc)) <;> (refine KO_nil ?_)) | (refine K_region (id := 2) ?_; refine mv ?_; refine KO_nil ?_) | (refine K_region (id := 3) ?_; refine mv ?_; refine KO_nil ?_)))
  · refine K_ret ⟨_, rfl, ?_⟩
    exact ⟨.inr ⟨rfl, fun q => by have := congrArg List.length q; simp at this; omega⟩, S⟩
  · refine k_loop (σ := Nat) (fun i h' => Hs h0 h' [] ∧ i ≤ gs.length ∧ ∀ j, j < i → (gs.getD j default).toGu = (ks.getD j default).toGu) (fun i => gs.length - i) (fun i => [(0, v), (1, u), (5, .int .i64 i)]) 0 (by repeat (first | exact Ks.le_nil _ | refine Ks.le_cons rfl ?_)) ?_ ?_
    · exact ⟨S, Nat.zero_le _, fun j hj => absurd hj (Nat.not_lt_zero _)⟩
    clear S
    rintro i h ⟨S, g1, g2⟩
    all_goals (repeat' (first | refine K_seq ?_ | refine k_cond rfl ?_ | refine K_skip ?_ | refine K_exit ?_ | refine k_block ?_ | (refine K_region (id := 4) ?_; refine mv ?_; refine mv ?_; refine lnB S ?_; (first | (refine cS ?_ ?_ <;> intro hc)) <;> (refine KO_nil ?_)) | (refine K_region (id := 8) ?_; refine mv ?_; refine KO_nil ?_)))
    · have e1 := tv i (by omega)
      have e2 := tu i (by omega)
      all_goals (repeat' (first | (refine K_draw (id := 6) ?_; refine mv ?_; refine mv ?_; refine ixB S ?_; refine lEB S ?_; refine mv ?_; refine mv ?_; refine ixB S ?_; refine lEB S ?_)))
      simp only [Int.toNat_natCast]
      (refine KO_fn rfl rfl rfl rfl rfl ((sameGuest_ok S.wf (gs.getD i default) (ks.getD i default) (e1.1.ext w S.ext) (e2.1.ext w S.ext) e1.2 e2.2).mono ?_); rintro _ h ⟨⟨rfl, z⟩ | ⟨rfl, z⟩, x⟩) <;> (replace S := S.join0 x; clear x; refine vl ?_; refine KO_nil ?_)
      · all_goals (repeat' (first | refine k_cond rfl ?_ | refine K_skip ?_ | (refine K_region (id := 5) ?_; refine mv ?_; refine ad ?_; refine mv ?_; refine KO_nil ?_)))
        refine ⟨i + 1, ?_, ?_, (by repeat (first | exact Ks.le_nil _ | refine Ks.le_cons rfl ?_))⟩
        · show gs.length - (i + 1) < gs.length - i; omega
        · exact ⟨S, by omega, nxtD g2 z⟩
      · all_goals (repeat' (first | refine K_seq ?_ | refine k_cond rfl ?_ | (refine K_region (id := 7) ?_; refine mv ?_; refine KO_nil ?_)))
        refine K_ret ⟨_, rfl, ?_⟩
        refine ⟨.inr ⟨rfl, fun q => z ?_⟩, S⟩
        rw [← map_getD (f := fun g : Gst => g.toGu) (show i < gs.length by omega), ← map_getD (f := fun g : Gst => g.toGu) (show i < ks.length by omega), q]
    · refine K_ret ⟨_, rfl, ?_⟩
      refine ⟨.inl ⟨rfl, eq_getD (by simp; omega) fun j hj => ?_⟩, S⟩
      simp at hj
      rw [map_getD (by omega), map_getD (by omega)]; exact g2 j (by omega)
theorem sameRoll_ok {h0 : AH} (w : WfH h0) (v u : RlV) (r q : Rl) (hv : RlOk h0 v r) (hu : RlOk h0 u q) : Fn Tryz.prog Xh 22 [v.val, u.val] h0 (fun x h' => BoolIs x (r = q) ∧ Hs h0 h' []) := by
  have S := Hs.start w
  have e1 := hv.len
  have e2 := hu.len
  have l1 := hv.lg
  have l2 := hu.lg
  unfold RlV.val
  refine Fn_K rfl Tryz.func22 rfl rfl ?_
  skip
  all_goals (repeat' (first | refine K_seq ?_ | (refine K_region (id := 0) ?_; (refine bx S ?_; clear S; intro b h S); (refine bx S ?_; clear S; intro b h S); refine mv ?_; refine KO_nil ?_) | (refine K_region (id := 1) ?_; refine vl ?_; refine lB S rfl rfl ?_; refine vl ?_; refine lB S rfl rfl ?_)))
  (refine KO_fn rfl rfl rfl rfl rfl ((sameGuests_ok S.wf v.vg.val u.vg.val v.gs u.gs (hv.rg.ext w S.ext) (hu.rg.ext w S.ext) (fun i hi => ⟨(hv.tg i hi).1.ext w S.ext, (hv.tg i hi).2⟩) (fun i hi => ⟨(hu.tg i hi).1.ext w S.ext, (hu.tg i hi).2⟩) (by omega) (by omega)).mono ?_); rintro _ h ⟨⟨rfl, z⟩ | ⟨rfl, z⟩, x⟩) <;> (replace S := S.join0 x; clear x; refine mv ?_; (first | refine off ?_ | (refine vl ?_)); (first | refine off ?_ | (refine lB S rfl rfl ?_)); (first | refine off ?_ | (refine vl ?_)); (first | refine off ?_ | (refine lB S rfl rfl ?_)); (first | (refine off ?_; refine vl ?_; refine mv ?_; refine KO_nil ?_) | skip))
  · (refine KO_fn rfl rfl rfl rfl rfl ((sameTies_ok S.wf v.vt.val u.vt.val r.ts q.ts (hv.rt.ext w S.ext) (hu.rt.ext w S.ext) hv.lt hu.lt).mono ?_); rintro _ h ⟨⟨rfl, z2⟩ | ⟨rfl, z2⟩, x⟩) <;> (replace S := S.join0 x; clear x; refine vl ?_; refine mv ?_; refine KO_nil ?_)
    · all_goals (repeat' (fail))
      refine K_ret ⟨_, rfl, ?_⟩
      refine ⟨.inl ⟨rfl, ?_⟩, S.drop⟩
      rw [hv.us, hu.us] at z
      cases r; cases q; simp only [Rl.mk.injEq]; exact ⟨z, z2⟩
    · all_goals (repeat' (fail))
      refine K_ret ⟨_, rfl, ?_⟩
      exact ⟨.inr ⟨rfl, fun e => z2 (by rw [e])⟩, S.drop⟩
  · all_goals (repeat' (fail))
    refine K_ret ⟨_, rfl, ?_⟩
    exact ⟨.inr ⟨rfl, fun e => z (by rw [hv.us, hu.us, e])⟩, S.drop⟩
theorem roll_ok {h0 : AH} (w : WfH h0) {p : Nat} {r : Rl} (B : BkRd h0 p r) (H : RO r) : Fn Tryz.prog Xh 39 [.pointer (some ⟨p, 0, none⟩)] h0 (fun u h' => ∃ v : RlV, u = v.val ∧ v.gs.map (·.toGu) = r.us ∧ Hs h0 h' (rolL v r.ts)) := by
  have S := Hs.start w
  obtain ⟨s, B⟩ := B
  have hb := B.bk
  have hrg := B.rg
  have hgl := B.len
  have h64 := H.l64
  have h256 := H.l256
  refine Fn_K rfl Tryz.func39 rfl rfl ?_
  all_goals (repeat' (first | refine K_seq ?_ | (refine K_region (id := 0) ?_; (refine al S ?_; clear S; intro b h S); refine KO_nil ?_) | (refine K_region (id := 1) ?_; refine mv ?_)))
  (refine KO_fn rfl rfl rfl rfl rfl ((bnone_ok S.wf (S.ext.get w hb)).mono ?_); rintro _ h ⟨rfl, x⟩) <;> (replace S := S.join0 x; clear x; refine KO_nil ?_)
  obtain ⟨b2, hnm⟩ : ∃ x, x = b := ⟨_, rfl⟩; subst hnm
  all_goals (repeat' (first | refine K_seq ?_ | refine k_cond rfl ?_ | refine K_skip ?_ | (refine K_region (id := 3) ?_; (refine al S ?_; clear S; intro b h S); refine KO_nil ?_)))
  obtain ⟨b3, hnm⟩ : ∃ x, x = b := ⟨_, rfl⟩; subst hnm
  have S := ((S.nilS (e := 24) (z := 9) (enc := eG))).anyS (p := fun h fp => Star h (([] : List Gst).map slOf) fp) fun h' => trivial
  replace S : Hs h0 h [tgO [], .sl (SlV.val ⟨none, 0, 0⟩) 24 9 eG [], .blk b3 [SlV.val ⟨none, 0, 0⟩, .slice none 0 0] 32, .blk b2 [.slice none 0 0, .slice none 0 0] 32] := S
  all_goals (repeat' (first | refine k_block ?_ | (refine K_region (id := 4) ?_; refine mv ?_; refine vl ?_; refine vl ?_; refine vl ?_; refine lH S ?_; refine lnB S ?_; refine mv ?_; refine KO_nil ?_)))
  refine k_loop (σ := Nat × SlV × List Gst) (fun (i, vg, gs) h' => Hs h0 h' [tgO gs, .sl vg.val 24 9 eG gs, .blk b3 [vg.val, .slice none 0 0] 32, .blk b2 [.slice none 0 0, .slice none 0 0] 32] ∧ i ≤ r.us.length ∧ gs.map (·.toGu) = r.us.take i) (fun (i, vg, gs) => r.us.length - i) (fun (i, vg, gs) => [(0, .pointer (some ⟨p, 0, none⟩)), (2, .pointer (some ⟨b2, 0, none⟩)), (3, .pointer (some ⟨b3, 0, none⟩)), (13, s.vg.val), (14, .int .i64 s.gs.length), (15, .int .i64 i)]) (0, ⟨none, 0, 0⟩, []) (by repeat (first | exact Ks.le_nil _ | refine Ks.le_cons rfl ?_)) ?_ ?_
  · exact ⟨S, Nat.zero_le _, rfl⟩
  clear S
  rintro ⟨i, vg, gs⟩ h ⟨S, g1, g2⟩
  all_goals (repeat' (first | refine K_seq ?_ | refine k_cond rfl ?_ | refine K_skip ?_ | refine K_exit ?_ | refine k_block ?_ | (refine K_region (id := 5) ?_; (first | (refine cS ?_ ?_ <;> intro hc)) <;> (refine KO_nil ?_))))
  · have hil : i < s.gs.length := by omega
    have hg := B.g hil
    have h4 := (chkG_ok (H.chk _ (mem_getD (show i < r.us.length by omega)))).2.2.2.1
    have hl4 : (s.gs.getD i default).tg.length ≤ 1000000 := by rw [hg]; omega
    have hgs : gs.length ≤ 64 := by have := congrArg List.length g2; simp at this; omega
    all_goals (repeat' (first | (refine K_region (id := 6) ?_; refine ixB S ?_; refine lEB S ?_; (refine al S ?_; clear S; intro b h S); (first | (refine sB S rfl rfl ?_; clear S; intro h S)); refine KO_nil ?_)))
    simp only [Int.toNat_natCast] at S
    simp only [Int.toNat_natCast]
    replace S : Hs h0 h [.blk b (eG (s.gs.getD i default)) 24, tgO gs, .sl vg.val 24 9 eG gs, .blk b3 [vg.val, .slice none 0 0] 32, .blk b2 [.slice none 0 0, .slice none 0 0] 32] := S
    (repeat (refine K_seq ?_)); refine K_drawX (id := 7) [(1, (0, 2))] [some (b3)] ?_; refine KX_cons ?_; (first | (refine vl ?_ <;> refine KO_nil ⟨⟨by (first | exact True.intro), rfl⟩, ?_⟩)); refine KX_cons ?_; (first | (refine lB S rfl rfl ?_ <;> refine KO_nil ⟨⟨by (first | exact Or.inr rfl), rfl⟩, ?_⟩)); refine KX_cons ?_; (first | (refine lB S rfl rfl ?_ <;> refine KO_nil ⟨⟨by (first | exact True.intro), rfl⟩, ?_⟩))
    ((refine KX_cons ?_; first | refine KO_fn rfl rfl rfl rfl rfl ((copied_ok S.wf (s.gs.getD i default) ((B.tg i hil).ext w S.ext) hl4).mono ?_)); rintro _ h ⟨tv, rfl, x⟩) <;> ((refine KO_nil ⟨⟨True.intro, ?_⟩, ?_⟩; (focus ((show keepsX _ _ _ _ _; simp only [keepsX]; (repeat' (first | exact True.intro | refine And.intro ?_ ?_)); all_goals (intro hw; first | exact x.ext.old _ S.bB))))); replace S := S.join1 x; clear x; refine KX_cons ?_; (first | ((refine one 9 S ?_; have S0 := S; clear S; intro u h S); refine KO_nil ⟨⟨True.intro, ?_⟩, ?_⟩; (focus ((show keepsX _ _ _ _ _; simp only [keepsX]; (repeat' (first | exact True.intro | refine And.intro ?_ ?_)); all_goals (intro hw; first | exact (S.gB).trans (S0.gB).symm)))); clear S0)))
    refine KX_cons ?_; refine app (y0 := { s.gs.getD i default with tv := tv }) S rfl rfl ?_; have S0 := S; clear S; intro v h S; obtain ⟨vg', rfl⟩ := S.sV v; refine KO_nil ⟨⟨True.intro, ?_⟩, ?_⟩; (focus ((show keepsX _ _ _ _ _; simp only [keepsX]; (repeat' (first | exact True.intro | refine And.intro ?_ ?_)); all_goals (intro hw; first | exact (S.gB).trans (S0.gB).symm)))); clear S0; (refine KX_cons ?_; (first | (refine vl ?_ <;> refine KO_nil ⟨⟨by (first | exact True.intro), rfl⟩, ?_⟩)); refine KX_cons ?_; (first | ((refine sB S rfl rfl ?_; have S0 := S; clear S; intro h S); refine KO_nil ⟨⟨True.intro, ?_⟩, ?_⟩; (focus ((show keepsX _ _ _ _ _; simp only [keepsX]; (repeat' (first | exact True.intro | refine And.intro ?_ ?_)); all_goals (intro hw; first | exact absurd hw (by decide +kernel))))); clear S0)); refine KX_nil ?_)
    all_goals (repeat' (first | (refine K_region (id := 8) ?_; refine ad ?_; refine mv ?_; refine KO_nil ?_)))
    refine ⟨(i + 1, vg', gs ++ [{ s.gs.getD i default with tv := tv }]), ?_, ?_, (by repeat (first | exact Ks.le_nil _ | refine Ks.le_cons rfl ?_))⟩
    · show r.us.length - (i + 1) < r.us.length - i; omega
    · replace S : Hs h0 h (.sl vg'.val 24 9 eG (gs ++ [{ s.gs.getD i default with tv := tv }]) :: .sl tv.val 9 1 eS (s.gs.getD i default).tg :: .blk b (eG (s.gs.getD i default)) 24 :: tgO gs :: .blk b3 [vg'.val, .slice none 0 0] 32 :: .blk b2 [.slice none 0 0, .slice none 0 0] 32 :: []) := S
      have S := (show Hs h0 h (.sl tv.val 9 1 eS (s.gs.getD i default).tg :: tgO gs :: .sl vg'.val 24 9 eG (gs ++ [{ s.gs.getD i default with tv := tv }]) :: .blk b3 [vg'.val, .slice none 0 0] 32 :: .blk b2 [.slice none 0 0, .slice none 0 0] 32 :: []) from S.pick)
      refine ⟨Hs.tgOapp (g := { s.gs.getD i default with tv := tv }) S, by (try dsimp only); omega, ?_⟩
      dsimp only
      rw [take_succ_getD (by omega), List.map_append, g2, ← hg]; rfl
  · obtain rfl : i = r.us.length := by omega
    rw [List.take_length] at g2
    all_goals (repeat' (first | (refine K_region (id := 9) ?_; refine mv ?_; refine vl ?_; refine vl ?_; refine vl ?_; refine lH S ?_)))
    (refine KO_fn rfl rfl rfl rfl rfl ((cloneT_ok S.wf s.vt.val r.ts (B.rt.ext w S.ext) (by omega)).mono ?_); rintro v h x) <;> (replace S := S.join1 x; clear x; obtain ⟨vt', rfl⟩ := S.sV v; refine vl ?_; (first | (refine sB S rfl rfl ?_; clear S; intro h S)); refine KO_nil ?_)
    all_goals (repeat' (first | refine K_seq ?_ | (refine K_region (id := 10) ?_; refine lB S rfl rfl ?_; (first | (refine sB S rfl rfl ?_; clear S; intro h S)); refine KO_nil ?_)))
    refine K_ret ⟨_, ret_cell S rfl (by first | exact .there (.there (.there (.there .here)))) (by exact rfl) (by exact rfl), ?_⟩
    refine ⟨⟨vg, vt', gs⟩, rfl, g2, ?_⟩
    exact (show Hs h0 h [.sl vg.val 24 9 eG gs, .sl vt'.val 111 3 eTi r.ts, tgO gs] from S.pick)
end Go.Proofs.Xx

/-
  Rows with room, op by op; Delete; Untie.
-/
namespace Go.Proofs.Xx
open Go Go.Proofs
set_option linter.unusedSimpArgs false
set_option linter.unusedVariables false
set_option linter.unusedSectionVars false
set_option maxRecDepth 100000
set_option maxHeartbeats 4000000

/-- One block is changed at most, blocks are made at most. -/
structure Chg (h h' : AH) (b : Nat) (o : AObj) : Prop where
  at_ : h'.get b = some o
  old : ∀ j, j ≠ b → j < h.next → h'.get j = h.get j
  next : h.next ≤ h'.next
  wf : WfH h'
theorem Chg.trans {h h' h'' : AH} {b : Nat} {o o' : AObj} (c : Chg h h' b o) (d : Chg h' h'' b o') : Chg h h'' b o' :=
  ⟨d.at_, fun j hj hn => (d.old j hj (Nat.lt_of_lt_of_le hn c.next)).trans (c.old j hj hn), Nat.le_trans c.next d.next, d.wf⟩
theorem splice_nil {c : List Value} {o : Nat} (h : o ≤ c.length) : splice c o [] = c := by simp [splice]
section
variable {P : Program} {X : Extern} {sz : Nat} {L L' : Ks} {h : AH} {ops : Array Oper} {os : List Oper} {o : Oper} {R : Ks → AH → Prop}
/-- v[l:r], raw. -/
theorem rw2 {x : Operand} {lo hi : Option Operand} {vl vr : Option Value} {ty e' e : TypeId} {b o' n cap l r z : Nat} {cc : List Value} {slk : Option Nat} {ro : Bool} {d : Tmp} (hb : h.get b = some (.cells cc e slk ro))
    (w : ∀ o2, (l < cap → o2 = o' + l * z) → (slk ≠ none → o2 = o' + l * z) → KO P X sz ops os (L.put d (.slice (some ⟨b, o2, none⟩) (r - l) (cap - l))) h R) (ho : o.op = .slice ty x lo hi none := by exact rfl) (hg : guardA ops L.tree o.guard = some true := by exact rfl) (hx : kA L x = some (.slice (some ⟨b, o', none⟩) n cap) := by exact rfl)
    (h1 : evOpt L.tree lo = some vl := by exact rfl) (h2 : evOpt L.tree hi = some vr := by exact rfl) (b1 : boundOf vl 0 = some l := by exact rfl) (b2 : boundOf vr n = some r := by exact rfl)
    (hc : l ≤ r ∧ r ≤ cap := by omega) (hu : P.underlying ty = some (.slice e') := by exact rfl) (hz : sizeT P e' = some z := by exact rfl) (hdst : o.dst = some d := by exact rfl) (hds : Nat.blt d sz = true := by exact rfl) : KO P X sz ops (o :: os) L h R := by
  have key : ∀ o2, aSlice P ty (.slice (some ⟨b, o', none⟩) n cap) vl vr none h = some (.slice (some ⟨b, o2, none⟩) (r - l) (cap - l)) → (l < cap → o2 = o' + l * z) → (slk ≠ none → o2 = o' + l * z) → KO P X sz ops (o :: os) L h R := fun o2 q1 q2 q3 => by
    refine KO_val (v := .slice (some ⟨b, o2, none⟩) (r - l) (cap - l)) (h' := h) hg ?_ (by simp only [putK, hdst, hds]) (w o2 q2 q3)
    rw [ho]
    simp only [aOp, tree_le hx, h1, h2, show evOpt L.tree none = some none from rfl, q1, nextOf, aSlice3_none]
  cases hq : slk.isNone && Nat.beq l cap with
  | true =>
    rw [Bool.and_eq_true] at hq
    have hl := Nat.eq_of_beq_eq_true hq.2
    subst hl
    refine key o' ?_ (fun q => by omega) (fun q => by cases slk with | none => exact absurd rfl q | some k => cases hq.1)
    simp only [aSlice, hu, hb, hz, b1, b2, Nat.ble_eq_true_of_le hc.1, Nat.ble_eq_true_of_le hc.2, Bool.and_self, hq.1, show Nat.beq l l = true by simp]
  | false =>
    refine key (o' + l * z) ?_ (fun _ => rfl) (fun _ => rfl)
    simp only [aSlice, hu, hb, hz, b1, b2, Nat.ble_eq_true_of_le hc.1, Nat.ble_eq_true_of_le hc.2, Bool.and_self, hq]
/-- append where there is room. -/
theorem rwa {x y : Operand} {ts tx e e2 : TypeId} {zc new cc : List Value} {by_ b o' n cap m z : Nat} {slk : Option Nat} {u : Value} {d : Tmp} (hb : h.get b = some (.cells cc e2 slk false)) (wf : WfH h) (hr : Rd h u z m new)
    (w : ∀ h', Chg h h' b (.cells (splice cc (o' + n * z) new) e2 slk false) → KO P X sz ops os (L.put d (.slice (some ⟨b, o', none⟩) (n + m) cap)) h' R)
    (ho : o.op = .call { callee := .builtin .append, args := #[x, y], argTypes := #[ts, tx] } := by exact rfl) (hg : guardA ops L.tree o.guard = some true := by exact rfl) (hx : kA L x = some (.slice (some ⟨b, o', none⟩) n cap) := by exact rfl) (hy : kA L y = some u := by exact rfl)
    (hs : sliceElem P ts = some e := by exact rfl) (hz : zeroCellsT P e = some zc := by exact rfl) (hzl : zc.length = z := by exact rfl) (hby : bytesT P e = some (by_ + 1) := by exact rfl) (hxs : P.underlying tx = some (.slice e) := by exact rfl)
    (hc : n + m ≤ cap := by omega) (hcc : o' + cap * z ≤ cc.length := by assumption) (h1 : new.all one? = true := by assumption) (hsz : (m + 1) * (by_ + 1) ≤ 1099511627776 := by omega) (hdst : o.dst = some d := by exact rfl) (hds : Nat.blt d sz = true := by exact rfl) : KO P X sz ops (o :: os) L h R := by
  subst hzl
  have hlen := hr.length
  have hfit : o' + n * zc.length + new.length ≤ cc.length := by
    rw [hlen, Nat.add_assoc, ← Nat.add_mul]
    exact Nat.le_trans (Nat.add_le_add_left (Nat.mul_le_mul_right _ hc) _) hcc
  have k2 : Nat.beq new.length (m * zc.length) = true := by rw [hlen]; simp
  have hsrc : aSource zc.length u h = some (m, new) := hr.source
  have go : ∀ h', aAppend P [ts, tx] (.slice (some ⟨b, o', none⟩) n cap) u h = some (.slice (some ⟨b, o', none⟩) (n + m) cap, h') → Chg h h' b (.cells (splice cc (o' + n * zc.length) new) e2 slk false) → KO P X sz ops (o :: os) L h R := fun h' q1 q2 => by
    refine KO_val (v := .slice (some ⟨b, o', none⟩) (n + m) cap) (h' := h') hg ?_ (by simp only [putK, hdst, hds]) (w h' q2)
    rw [ho]
    simp [aOp, tree_le hx, tree_le hy, evAll, aBuiltin, q1, nextOf2]
  cases m with
  | zero =>
    have hn : new = [] := List.length_eq_zero_iff.1 (by omega)
    subst hn
    refine go h ?_ ⟨by rw [splice_nil (by simp at hfit; omega)]; exact hb, fun _ _ _ => rfl, Nat.le_refl _, wf⟩
    simp only [aAppend, hs, hxs, hz, hby, hsrc, Nat.ble_eq_true_of_le hsz, h1, k2, Bool.and_self, hb, Nat.ble_eq_true_of_le (show n ≤ cap from hc), Nat.add_zero]
  | succ m =>
    refine go (h.put b (.cells (splice cc (o' + n * zc.length) new) e2 slk false)) ?_ ⟨by rw [AH.get_put, if_pos rfl], fun j hj _ => by rw [AH.get_put, if_neg hj], Nat.le_refl _, wf.put (wf.lt hb) _⟩
    simp only [aAppend, hs, hxs, hz, hby, hsrc, Nat.ble_eq_true_of_le hsz, h1, k2, Bool.and_self, hb, Nat.ble_eq_true_of_le hc, putCells, Nat.ble_eq_true_of_le hfit]
/-- clear. -/
theorem zrow_len (zc : List Value) : ∀ n, (zeroRow zc n).length = n * zc.length
  | 0 => by simp [zeroRow]
  | n + 1 => by rw [zeroRow, List.length_append, zrow_len zc n, Nat.add_mul, Nat.one_mul, Nat.add_comm]
theorem zrow_one {zc : List Value} (h : zc.all one? = true) : ∀ n, (zeroRow zc n).all one? = true
  | 0 => rfl
  | n + 1 => by rw [zeroRow, List.all_append, h, zrow_one h n]; rfl
theorem rwc {x : Operand} {ty e e2 : TypeId} {zc cc : List Value} {b o' n cap : Nat} {slk : Option Nat} (hb : h.get b = some (.cells cc e2 slk false)) (wf : WfH h)
    (w : ∀ h', Chg h h' b (.cells (splice cc o' (zeroRow zc n)) e2 slk false) → KO P X sz ops os L' h' R)
    (ho : o.op = .call { callee := .builtin .clear, args := #[x], argTypes := #[ty] } := by exact rfl) (hg : guardA ops L.tree o.guard = some true := by exact rfl) (hx : kA L x = some (.slice (some ⟨b, o', none⟩) n cap) := by exact rfl)
    (hu : P.underlying ty = some (.slice e) := by exact rfl) (hz : zeroCellsT P e = some zc := by exact rfl) (h1 : zc.all one? = true := by exact rfl) (hfit : o' + n * zc.length ≤ cc.length := by omega) (hp : putK sz L o.dst (.tuple #[]) = some L' := by exact rfl) : KO P X sz ops (o :: os) L h R := by
  have go : ∀ h', aClear P ty (.slice (some ⟨b, o', none⟩) n cap) h = some h' → Chg h h' b (.cells (splice cc o' (zeroRow zc n)) e2 slk false) → KO P X sz ops (o :: os) L h R := fun h' q1 q2 => by
    refine KO_val (v := .tuple #[]) (h' := h') hg ?_ hp (w h' q2)
    rw [ho]
    simp [aOp, tree_le hx, evAll, aBuiltin, q1]
  have hfit2 : o' + (zeroRow zc n).length ≤ cc.length := by rw [zrow_len]; exact hfit
  cases n with
  | zero =>
    refine go h ?_ ⟨by show _ = some (AObj.cells (splice cc o' []) e2 slk false); rw [splice_nil (by omega)]; exact hb, fun _ _ _ => rfl, Nat.le_refl _, wf⟩
    simp only [aClear, hu]
  | succ n =>
    refine go (h.put b (.cells (splice cc o' (zeroRow zc (n + 1))) e2 slk false)) ?_ ⟨by rw [AH.get_put, if_pos rfl], fun j hj _ => by rw [AH.get_put, if_neg hj], Nat.le_refl _, wf.put (wf.lt hb) _⟩
    simp only [aClear, hu, hz, hb, putCells, zrow_one h1, Nat.ble_eq_true_of_le hfit2, Bool.and_self]
end
theorem takeAt_ext {c xs : List Value} {o n : Nat} (hl : xs.length = n) (hfit : o + n ≤ c.length) (hg : ∀ j, j < n → c[o + j]? = xs[j]?) : takeAt c o n = some xs := by
  rw [takeAt_mk hfit]
  congr 1
  apply List.ext_getElem?
  intro j
  rw [List.getElem?_take]
  split
  · rw [List.getElem?_drop]; exact hg j (by assumption)
  · rw [List.getElem?_eq_none (by omega)]
variable [Flag]
end Go.Proofs.Xx

/-
  Untie.
-/
namespace Go.Proofs.Xx
open Go Go.Proofs
set_option linter.unusedSimpArgs false
set_option linter.unusedVariables false
set_option linter.unusedSectionVars false
set_option maxRecDepth 100000
set_option maxHeartbeats 4000000

/-- The ties but for a pair's. -/
def untT (ts : List Ti) (a b : List UInt8) : List Ti := ts.filter fun t => !decide (t.a = sMin a b ∧ t.b = sMax a b)
open Classical in
noncomputable def untieF (r : Rl) (a b : List UInt8) : Rl × Int := if tied r.ts a b then (⟨r.us, untT r.ts a b⟩, 0) else (r, 6)
variable [Flag]
end Go.Proofs.Xx

/-
  Delete of a guest.
-/
namespace Go.Proofs.Xx
open Go Go.Proofs
set_option linter.unusedSimpArgs false
set_option linter.unusedVariables false
set_option linter.unusedSectionVars false
set_option maxRecDepth 100000
set_option maxHeartbeats 4000000

variable [Flag]
end Go.Proofs.Xx

/-
  The map is written anew.
-/
namespace Go.Proofs.Xx
open Go Go.Proofs
set_option linter.unusedSimpArgs false
set_option linter.unusedVariables false
set_option linter.unusedSectionVars false
set_option maxRecDepth 100000
set_option maxHeartbeats 4000000

section
variable {P : Program} {X : Extern} {sz : Nat} {L L' : Ks} {h h0 : AH} {rs : List Rs} {ops : Array Oper} {os : List Oper} {o : Oper} {R : Ks → AH → Prop}
/-- A map is cleared. -/
theorem clrM {α : Type} {b : Nat} {enc : α → Value} {l : List (List UInt8 × α)} {rs' : List Rs} {x : Operand} {ty kt et : TypeId} (S : Hs h0 h rs) (a : At rs (.mp b enc l)) (u : Ut rs (.mp b enc l) (.mp b enc []) rs') (w : ∀ h', Hs h0 h' rs' → KO P X sz ops os L' h' R)
    (ho : o.op = .call { callee := .builtin .clear, args := #[x], argTypes := #[ty] } := by exact rfl) (hg : guardA ops L.tree o.guard = some true := by exact rfl) (hx : kA L x = some (.map (some b)) := by exact rfl) (hu : P.underlying ty = some (.map kt et) := by exact rfl) (hp : putK sz L o.dst (.tuple #[]) = some L' := by exact rfl) : KO P X sz ops (o :: os) L h R := by
  obtain ⟨es, clock, h1, h2, h3, h4⟩ := mp_get S a
  refine KO_val (v := .tuple #[]) (h' := h.put b (.map [] clock)) hg ?_ hp (w _ (S.putMp (es2 := []) u rfl (fun e he => by cases he) List.Pairwise.nil))
  rw [ho]
  simp [aOp, tree_le hx, evAll, aBuiltin, aClear, hu, aClearMap, h1]
end
variable [Flag]
theorem index_ok {h0 h : AH} {rs : List Rs} {p m : Nat} {vg vt : SlV} {gs : List Gst} {mp : List (List UInt8 × Int)} (S : Hs h0 h (.mp m (.int .i64) mp :: .blk p [vg.val, vt.val, .map (some m)] 86 :: .sl vg.val 24 9 eG gs :: rs)) (hl : gs.length ≤ 64) (nd : ∀ i j, i < j → j < gs.length → (gs.getD i default).name ≠ (gs.getD j default).name) :
    Fn Tryz.prog Xh 93 [.pointer (some ⟨p, 0, none⟩)] h (fun _ h' => ∃ mp', AtOk mp' (gs.map (·.toGu)) ∧ Hs h0 h' (.mp m (.int .i64) mp' :: .blk p [vg.val, vt.val, .map (some m)] 86 :: .sl vg.val 24 9 eG gs :: rs)) := by
  refine Fn_K rfl Tryz.func93 rfl rfl ?_
  all_goals (repeat' (first | refine K_seq ?_ | refine k_cond rfl ?_ | refine K_skip ?_ | refine K_exit ?_ | refine k_block ?_ | refine K_scope ?_ | refine K_label ?_ | (refine K_region (id := 0) ?_; refine mv ?_; refine vl ?_; (first | refine vl ?_ | refine fB S ?_ | refine fS S rfl rfl ?_ | refine fA ?_); (first | refine lB S rfl rfl ?_ | refine lES2 S rfl rfl ?_ | refine lEB S ?_ | refine lH S ?_))))
  refine clrM S .here .here (fun h S => ?_)
  (refine KO_nil ?_)
  all_goals (repeat' (first | refine K_seq ?_ | refine k_cond rfl ?_ | refine K_skip ?_ | refine K_exit ?_ | refine k_block ?_ | refine K_scope ?_ | refine K_label ?_ | (refine K_region (id := 1) ?_; refine mv ?_; refine vl ?_; (first | refine vl ?_ | refine fB S ?_ | refine fS S rfl rfl ?_ | refine fA ?_); (first | refine vl ?_ | refine fB S ?_ | refine fS S rfl rfl ?_ | refine fA ?_); (first | refine lB S rfl rfl ?_ | refine lES2 S rfl rfl ?_ | refine lEB S ?_ | refine lH S ?_); (first | refine lnB S ?_ | refine lnS S rfl rfl ?_); refine mv ?_; refine KO_nil ?_)))
  refine k_loop (σ := Nat × List (List UInt8 × Int)) (fun (i, mp) h' => Hs h0 h' (.mp m (.int .i64) mp :: .blk p [vg.val, vt.val, .map (some m)] 86 :: .sl vg.val 24 9 eG gs :: rs) ∧ i ≤ gs.length ∧ AtOk mp ((gs.map (·.toGu)).take i)) (fun (i, mp) => gs.length - i) (fun (i, mp) => [(0, .pointer (some ⟨p, 0, none⟩)), (12, vg.val), (13, .int .i64 gs.length), (14, .int .i64 i)]) (0, []) (by repeat (first | exact Ks.le_nil _ | refine Ks.le_cons rfl ?_ | refine Ks.le_int ?_)) ?_ ?_
  · exact ⟨S, Nat.zero_le _, fun n => rfl⟩
  clear S
  rintro ⟨i, mp⟩ h ⟨S, g1, g2⟩
  all_goals (repeat' (first | refine K_seq ?_ | refine k_cond rfl ?_ | refine K_skip ?_ | refine K_exit ?_ | refine k_block ?_ | refine K_scope ?_ | refine K_label ?_ | (refine K_region (id := 2) ?_; (first | refine cT ?_ | refine cF ?_ | (refine cS ?_ ?_ <;> intro hc)) <;> (refine KO_nil ?_))))
  · all_goals (repeat' (first | refine K_seq ?_ | refine k_cond rfl ?_ | refine K_skip ?_ | refine K_exit ?_ | refine k_block ?_ | refine K_scope ?_ | refine K_label ?_ | (refine K_region (id := 3) ?_; refine mv ?_; (first | refine ixB S ?_ | refine ixS2 S rfl rfl ?_); (first | refine lB S rfl rfl ?_ | refine lES2 S rfl rfl ?_ | refine lEB S ?_ | refine lH S ?_); (refine al S ?_; clear S; intro b h S); refine mv ?_; (first | (refine sB S rfl rfl ?_; clear S; intro h S) | (refine sE2 S rfl rfl ?_; clear S; intro h S)); refine KO_nil ?_) | (refine K_draw (id := 4) ?_; refine mv ?_; refine vl ?_; (first | refine vl ?_ | refine fB S ?_ | refine fS S rfl rfl ?_ | refine fA ?_); (first | refine lB S rfl rfl ?_ | refine lES2 S rfl rfl ?_ | refine lEB S ?_ | refine lH S ?_); (first | refine vl ?_ | refine fB S ?_ | refine fS S rfl rfl ?_ | refine fA ?_); (first | refine lB S rfl rfl ?_ | refine lES2 S rfl rfl ?_ | refine lEB S ?_ | refine lH S ?_); refine mv ?_)))
    simp only [Int.toNat_natCast] at S
    simp only [Int.toNat_natCast]
    replace S : Hs h0 h (.blk b (eG (gs.getD i default)) 24 :: .mp m (.int .i64) mp :: .blk p [vg.val, vt.val, .map (some m)] 86 :: .sl vg.val 24 9 eG gs :: rs) := S
    refine up (x := (i : Int)) (key := (gs.getD i default).name) S (.there .here) (.there .here) (fun h S => ?_) (.inl rfl)
    (refine KO_nil ?_)
    all_goals (repeat' (first | refine K_seq ?_ | refine k_cond rfl ?_ | refine K_skip ?_ | refine K_exit ?_ | refine k_block ?_ | refine K_scope ?_ | refine K_label ?_ | (refine K_region (id := 5) ?_; (first | refine ad ?_ | refine vl ?_); refine mv ?_; refine KO_nil ?_)))
    refine ⟨(i + 1, mPut mp (gs.getD i default).name i), ?_, ?_, (by repeat (first | exact Ks.le_nil _ | refine Ks.le_cons rfl ?_ | refine Ks.le_int ?_))⟩
    · show gs.length - (i + 1) < gs.length - i; omega
    · refine ⟨S.tail, by (try dsimp only); omega, ?_⟩
      dsimp only
      have hil : i < (gs.map (·.toGu)).length := by simp; omega
      have e : (gs.map (·.toGu)).getD i default = (gs.getD i default).toGu := map_getD (f := fun g : Gst => g.toGu) (by omega)
      have hlen : ((gs.map (·.toGu)).take i).length = i := by simp; omega
      rw [take_succ_getD hil, e]
      have := g2.app (g := (gs.getD i default).toGu) (gat_none.2 fun g hg => by
        obtain ⟨j, hj, rfl⟩ := mem_iff_getD.1 hg
        rw [hlen] at hj
        rw [getD_take hj, map_getD (f := fun g : Gst => g.toGu) (by omega)]
        exact nd j i hj (by omega))
      rwa [hlen] at this
  · obtain rfl : i = gs.length := by omega
    refine ⟨_, rfl, ?_⟩
    rw [List.take_of_length_le (by simp)] at g2
    exact ⟨mp, g2, S⟩
end Go.Proofs.Xx

/-
  DeleteFunc on ties.
-/
namespace Go.Proofs.Xx
open Go Go.Proofs
set_option linter.unusedSimpArgs false
set_option linter.unusedVariables false
set_option linter.unusedSectionVars false
set_option maxRecDepth 100000
set_option maxHeartbeats 4000000

/-- A tie of the guest n. -/
def hasT (n : List UInt8) (t : Ti) : Prop := t.a = n ∨ t.b = n
instance (n : List UInt8) (t : Ti) : Decidable (hasT n t) := inferInstanceAs (Decidable (_ ∨ _))
def cvN (b : Nat) : Value := .func (.func 92) #[] #[.pointer (some ⟨b, 0, none⟩)]
def keepT (n : List UInt8) (t : Ti) : Bool := !decide (hasT n t)
variable [Flag]
end Go.Proofs.Xx

/-
  A row turned round.
-/
namespace Go.Proofs.Xx
open Go Go.Proofs
set_option linter.unusedSimpArgs false
set_option linter.unusedVariables false
set_option linter.unusedSectionVars false
set_option maxRecDepth 100000
set_option maxHeartbeats 4000000

variable [Flag]
theorem reverse_ok {h0 h : AH} {rs : List Rs} {v : Value} {l : List (List UInt8)} (S : Hs h0 h (.sl v 9 1 eS l :: rs)) (hl : l.length ≤ 1000000) :
    Fn Tryz.prog Xh 76 [v] h (fun _ h' => Hs h0 h' (.sl v 9 1 eS l.reverse :: rs)) := by
  refine Fn_K rfl Tryz.func76 rfl rfl ?_
  all_goals (repeat' (first | refine K_seq ?_ | refine k_cond rfl ?_ | refine K_skip ?_ | refine K_exit ?_ | refine k_block ?_ | refine K_scope ?_ | refine K_label ?_ | (refine K_region (id := 0) ?_; refine mv ?_; (first | refine lnB S ?_ | refine lnS S rfl rfl ?_); (first | refine sb ?_ | refine vl ?_); refine mv ?_; refine mv ?_; refine KO_nil ?_)))
  refine k_loop (σ := Nat × List (List UInt8)) (fun (i, m) h' => Hs h0 h' (.sl v 9 1 eS m :: rs) ∧ 2 * i ≤ l.length + 1 ∧ m.length = l.length ∧ (∀ k, k < l.length → m.getD k default = l.getD (if k < i ∨ l.length - 1 - i < k then l.length - 1 - k else k) default)) (fun (i, m) => l.length - i) (fun (i, m) => [(0, v), (2, .int .i64 i), (3, .int .i64 ((l.length : Int) - 1 - i))]) (0, l) (by repeat (first | exact Ks.le_nil _ | refine Ks.le_cons rfl ?_ | refine Ks.le_int ?_)) ?_ ?_
  · exact ⟨S, by omega, rfl, fun k hk => by rw [if_neg (by omega)]⟩
  clear S
  rintro ⟨i, m⟩ h ⟨S, g1, g2, g3⟩
  all_goals (repeat' (first | refine K_seq ?_ | refine k_cond rfl ?_ | refine K_skip ?_ | refine K_exit ?_ | refine k_block ?_ | refine K_scope ?_ | refine K_label ?_ | (refine K_region (id := 1) ?_; refine mv ?_; refine mv ?_; (first | refine cT ?_ | refine cF ?_ | (refine cS ?_ ?_ <;> intro hc)) <;> (refine KO_nil ?_)) | (refine K_region (id := 2) ?_; refine mv ?_; (first | refine ad ?_ | refine vl ?_); refine mv ?_; (first | refine sb ?_ | refine vl ?_); refine mv ?_; refine mv ?_; refine KO_nil ?_) | (refine K_draw (id := 3) ?_; refine mv ?_; refine mv ?_; refine mv ?_; refine mv ?_; refine mv ?_; refine mv ?_; (first | refine ixB S ?_ | refine ixS2 S rfl rfl ?_); (first | refine lB S rfl rfl ?_ | refine lES2 S rfl rfl ?_ | refine lEB S ?_ | refine lH S ?_); refine mv ?_; refine mv ?_; (first | refine ixB S ?_ | refine ixS2 S rfl rfl ?_); (first | refine lB S rfl rfl ?_ | refine lES2 S rfl rfl ?_ | refine lEB S ?_ | refine lH S ?_); (first | refine ixB S ?_ | refine ixS2 S rfl rfl ?_); (first | (refine sB S rfl rfl ?_; clear S; intro h S) | (refine sE2 S rfl rfl ?_; clear S; intro h S)); (first | refine ixB S ?_ | refine ixS2 S rfl rfl ?_); (first | (refine sB S rfl rfl ?_; clear S; intro h S) | (refine sE2 S rfl rfl ?_; clear S; intro h S)); refine KO_nil ?_)))
  · have e : ((l.length : Int) - 1 - (i : Int)).toNat = l.length - 1 - i := by omega
    simp only [Int.toNat_natCast, e] at S
    have s1 : ∀ k, ((m.set i (m.getD (l.length - 1 - i) default)).set (l.length - 1 - i) (m.getD i default)).getD k default = if k = l.length - 1 - i then m.getD i default else if k = i then m.getD (l.length - 1 - i) default else m.getD k default := fun k => by
      rw [getD_set _ _ (by simp; omega) k, getD_set _ _ (by omega) k]
    refine ⟨(i + 1, (m.set i (m.getD (l.length - 1 - i) default)).set (l.length - 1 - i) (m.getD i default)), ?_, ?_, (by repeat (first | exact Ks.le_nil _ | refine Ks.le_cons rfl ?_ | refine Ks.le_int ?_))⟩
    · show l.length - (i + 1) < l.length - i; omega
    · refine ⟨S, by (try dsimp only); omega, by simp; exact g2, fun k hk => ?_⟩
      rw [s1]
      split
      · rename_i q
        rw [g3 i (by omega), if_neg (by omega), if_pos (by omega)]
        congr 1; omega
      · split
        · rename_i q q2
          rw [g3 _ (by omega), if_neg (by omega), if_pos (by omega), q2]
        · rename_i q q2
          rw [g3 k hk]
          congr 1
          split <;> split <;> omega
  · refine ⟨_, rfl, ?_⟩
    have : m = l.reverse := eq_getD (by simp; exact g2) fun k hk => by
      rw [g3 k (by omega), List.getD_eq_getElem?_getD, List.getD_eq_getElem?_getD, List.getElem?_reverse (by omega)]
      congr 2
      split <;> omega
    rw [← this]; exact S
end Go.Proofs.Xx

/-
  DeleteFunc on words; Common.
-/
namespace Go.Proofs.Xx
open Go Go.Proofs
set_option linter.unusedSimpArgs false
set_option linter.unusedVariables false
set_option linter.unusedSectionVars false
set_option maxRecDepth 100000
set_option maxHeartbeats 4000000

def cvC (b : Nat) : Value := .func (.func 78) #[] #[.pointer (some ⟨b, 0, none⟩)]
def keepC (g : Gst) (t : List UInt8) : Bool := decide (t ∈ g.tg)
theorem keepC_yes {g : Gst} {t : List UInt8} (h : t ∈ g.tg) : keepC g t = true := decide_eq_true h
theorem keepC_no {g : Gst} {t : List UInt8} (h : ¬ t ∈ g.tg) : keepC g t = false := decide_eq_false h
/-- The tongues in common. -/
def comF (r : Rl) (a b : List UInt8) : List (List UInt8) := match gat r.us a, gat r.us b with
  | some i, some j => (r.us.getD i default).tg.filter fun t => decide (t ∈ (r.us.getD j default).tg)
  | _, _ => []
/-- Two guests who share a tongue. -/
def spk (r : Rl) (a b : List UInt8) : Prop := ∃ i j, gat r.us a = some i ∧ gat r.us b = some j ∧ ∃ t, t ∈ (r.us.getD i default).tg ∧ t ∈ (r.us.getD j default).tg
theorem spk.symm {r : Rl} {a b : List UInt8} (h : spk r a b) : spk r b a := by
  obtain ⟨i, j, h1, h2, t, h3, h4⟩ := h
  exact ⟨j, i, h2, h1, t, h4, h3⟩
theorem spk.kn {r : Rl} {a b : List UInt8} (h : spk r a b) : gat r.us a ≠ none ∧ gat r.us b ≠ none := by
  obtain ⟨i, j, h1, h2, t, h3, h4⟩ := h
  rw [h1, h2]; simp
theorem comF_spk {r : Rl} {a b : List UInt8} : 0 < (comF r a b).length ↔ spk r a b := by
  unfold comF spk
  cases h1 : gat r.us a with
  | none => simp
  | some i =>
    cases h2 : gat r.us b with
    | none => simp
    | some j =>
      simp only [List.length_pos_iff_exists_mem, List.mem_filter, decide_eq_true_eq]
      constructor
      · rintro ⟨t, h⟩; exact ⟨i, j, rfl, rfl, t, h⟩
      · rintro ⟨i', j', e1, e2, t, h⟩
        cases e1; cases e2; exact ⟨t, h⟩
variable [Flag]
theorem idxS_ok {h0 : AH} (w : WfH h0) (v : Value) (l : List (List UInt8)) (r : RdL h0 v 1 eS l) (hl : l.length ≤ 1000000) (n : List UInt8) : Fn Tryz.prog Xh 129 [v, str n] h0 (fun u h' => ((u = .int .i64 (-1) ∧ ¬ n ∈ l) ∨ ∃ i : Nat, u = .int .i64 i ∧ i ≤ 1000000 ∧ n ∈ l) ∧ Hs h0 h' []) := by
  have S := Hs.start w
  refine Fn_K rfl Tryz.func129 rfl rfl ?_
  all_goals (repeat' (first | refine K_seq ?_ | refine k_block ?_ | (refine K_region (id := 0) ?_; refine mv ?_; refine KO_nil ?_) | (refine K_region (id := 1) ?_; refine mv ?_; refine lnB S ?_; refine mv ?_; refine KO_nil ?_)))
  refine k_loop (σ := Nat) (fun i h' => Hs h0 h' [] ∧ i ≤ l.length ∧ ∀ j, j < i → l.getD j default ≠ n) (fun i => l.length - i) (fun i => [(0, v), (1, str n), (7, .int .i64 l.length), (8, .int .i64 i)]) 0 (by repeat (first | exact Ks.le_nil _ | refine Ks.le_cons rfl ?_)) ?_ ?_
  · exact ⟨S, Nat.zero_le _, fun j hj => absurd hj (Nat.not_lt_zero _)⟩
  clear S
  rintro i h ⟨S, g1, g2⟩
  all_goals (repeat' (first | refine K_seq ?_ | refine k_cond rfl ?_ | refine K_skip ?_ | refine K_exit ?_ | refine k_block ?_ | (refine K_region (id := 2) ?_; (first | (refine cS ?_ ?_ <;> intro hc)) <;> (refine KO_nil ?_)) | (refine K_region (id := 3) ?_; refine mv ?_; refine mv ?_; refine KO_nil ?_) | (refine K_region (id := 4) ?_; refine mv ?_; refine mv ?_; refine mv ?_; refine ixB S ?_; refine lEB S ?_; (refine tS ?_ ?_ <;> intro hc) <;> (refine KO_nil ?_)) | (refine K_region (id := 5) ?_; refine mv ?_; refine mv ?_; refine KO_nil ?_) | (refine K_region (id := 6) ?_; refine ad ?_; refine mv ?_; refine KO_nil ?_) | (refine K_region (id := 7) ?_; refine mv ?_; refine KO_nil ?_)))
  all_goals (try simp only [Int.toNat_natCast] at *)
  · refine K_ret ⟨_, rfl, ?_⟩
    have hm := mem_getD (show i < l.length by omega)
    exact ⟨.inr ⟨i, rfl, by omega, by rw [hc]; exact hm⟩, S⟩
  · refine ⟨i + 1, ?_, ?_, (by repeat (first | exact Ks.le_nil _ | refine Ks.le_cons rfl ?_))⟩
    · show l.length - (i + 1) < l.length - i; omega
    · exact ⟨S, by omega, nxtD g2 fun q => hc q.symm⟩
  · refine K_ret ⟨_, rfl, ?_⟩
    refine ⟨.inl ⟨rfl, fun q => ?_⟩, S⟩
    obtain ⟨j, h1, h2⟩ := mem_iff_getD.1 q
    exact g2 j (by omega) h2
theorem cont_ok {h0 : AH} (w : WfH h0) (v : Value) (l : List (List UInt8)) (r : RdL h0 v 1 eS l) (hl : l.length ≤ 1000000) (n : List UInt8) : Fn Tryz.prog Xh 79 [v, str n] h0 (fun u h' => BoolIs u (n ∈ l) ∧ Hs h0 h' []) := by
  have S := Hs.start w
  refine Fn_K rfl Tryz.func79 rfl rfl ?_
  all_goals (repeat' (first | refine K_seq ?_ | (refine K_region (id := 0) ?_; refine mv ?_; refine KO_nil ?_) | (refine K_region (id := 1) ?_; refine mv ?_; refine mv ?_)))
  (refine KO_fn rfl rfl rfl rfl rfl ((idxS_ok S.wf v l (r.ext w S.ext) hl n).mono ?_); rintro _ h ⟨⟨rfl, z⟩ | ⟨i, rfl, z1, z⟩, x⟩) <;> (replace S := S.join0 x; clear x; (first | refine cT ?_ | refine cF ?_) <;> (refine mv ?_; refine KO_nil ?_))
  · all_goals (repeat' (fail))
    refine K_ret ⟨_, rfl, ?_⟩
    exact ⟨.inr ⟨rfl, z⟩, S⟩
  · skip
    all_goals (repeat' (fail))
    refine K_ret ⟨_, rfl, ?_⟩
    exact ⟨.inl ⟨rfl, z⟩, S⟩
theorem com1_ok {h0 : AH} (w : WfH h0) {b : Nat} {g : Gst} (hb : h0.get b = some (.cells (eG g) 24 none false)) (hg : RdL h0 g.tv.val 1 eS g.tg) (hl : g.tg.length ≤ 1000000) (t : List UInt8) : Fn Tryz.prog Xh 78 [str t, .pointer (some ⟨b, 0, none⟩)] h0 (fun v h' => BoolIs v (¬ t ∈ g.tg) ∧ Hs h0 h' []) := by
  have S := Hs.start w
  unfold eG at hb
  refine Fn_K rfl Tryz.func78 rfl rfl ?_
  all_goals (repeat' (first | refine K_seq ?_ | (refine K_region (id := 0) ?_; refine mv ?_; refine KO_nil ?_) | (refine K_region (id := 1) ?_; refine vl ?_; refine lH S ?_; refine mv ?_)))
  (refine KO_fn rfl rfl rfl rfl rfl ((cont_ok S.wf g.tv.val g.tg (hg.ext w S.ext) hl t).mono ?_); rintro _ h ⟨⟨rfl, z⟩ | ⟨rfl, z⟩, x⟩) <;> (replace S := S.join0 x; clear x; refine vl ?_; refine mv ?_; refine KO_nil ?_)
  · all_goals (repeat' (fail))
    refine K_ret ⟨_, rfl, ?_⟩
    exact ⟨.inr ⟨rfl, fun q => q z⟩, S⟩
  · skip
    all_goals (repeat' (fail))
    refine K_ret ⟨_, rfl, ?_⟩
    exact ⟨.inl ⟨rfl, z⟩, S⟩
theorem idxC_ok {h0 : AH} (w : WfH h0) {b : Nat} {g : Gst} (hb : h0.get b = some (.cells (eG g) 24 none false)) (hg : RdL h0 g.tv.val 1 eS g.tg) (hgl : g.tg.length ≤ 1000000) (v : Value) (l : List (List UInt8)) (hr : RdL h0 v 1 eS l) (hl : l.length ≤ 1000000) :
    Fn Tryz.prog Xh 128 [v, cvC b] h0 (fun u h' => ((u = .int .i64 (-1) ∧ ∀ i, i < l.length → l.getD i default ∈ g.tg) ∨ ∃ i : Nat, u = .int .i64 i ∧ i < l.length ∧ ¬ l.getD i default ∈ g.tg ∧ ∀ j, j < i → l.getD j default ∈ g.tg) ∧ Hs h0 h' []) := by
  have S := Hs.start w
  unfold cvC
  refine Fn_K rfl Tryz.func128 rfl rfl ?_
  all_goals (repeat' (first | refine K_seq ?_ | refine k_block ?_ | (refine K_region (id := 0) ?_; refine mv ?_; refine KO_nil ?_) | (refine K_region (id := 1) ?_; refine mv ?_; refine lnB S ?_; refine mv ?_; refine KO_nil ?_)))
  refine k_loop (σ := Nat) (fun i h' => Hs h0 h' [] ∧ i ≤ l.length ∧ ∀ j, j < i → l.getD j default ∈ g.tg) (fun i => l.length - i) (fun i => [(0, v), (1, cvC b), (7, .int .i64 l.length), (8, .int .i64 i)]) 0 (by repeat (first | exact Ks.le_nil _ | refine Ks.le_cons rfl ?_)) ?_ ?_
  · exact ⟨S, Nat.zero_le _, fun j hj => absurd hj (Nat.not_lt_zero _)⟩
  clear S
  rintro i h ⟨S, g1, g2⟩
  unfold cvC
  all_goals (repeat' (first | refine K_seq ?_ | refine k_cond rfl ?_ | refine K_skip ?_ | refine K_exit ?_ | refine k_block ?_ | (refine K_region (id := 2) ?_; (first | (refine cS ?_ ?_ <;> intro hc)) <;> (refine KO_nil ?_))))
  · all_goals (repeat' (first | refine K_seq ?_ | (refine K_region (id := 3) ?_; refine mv ?_; refine mv ?_; refine KO_nil ?_) | (refine K_region (id := 4) ?_; refine mv ?_; refine mv ?_; refine mv ?_; refine ixB S ?_; refine lEB S ?_)))
    simp only [Int.toNat_natCast]
    (refine KO_call rfl rfl rfl rfl ((com1_ok S.wf (S.ext.get w hb) (hg.ext w S.ext) hgl (l.getD i default)).mono ?_); rintro _ h ⟨⟨rfl, z⟩ | ⟨rfl, z⟩, x⟩) <;> (replace S := S.join0 x; clear x; refine KO_nil ?_)
    · all_goals (repeat' (first | refine K_seq ?_ | refine k_cond rfl ?_ | (refine K_region (id := 5) ?_; refine mv ?_; refine mv ?_; refine KO_nil ?_)))
      refine K_ret ⟨_, rfl, ?_⟩
      exact ⟨.inr ⟨i, rfl, by omega, z, g2⟩, S⟩
    · all_goals (repeat' (first | refine k_cond rfl ?_ | refine K_skip ?_ | (refine K_region (id := 6) ?_; refine ad ?_; refine mv ?_; refine KO_nil ?_)))
      refine ⟨i + 1, ?_, ?_, (by repeat (first | exact Ks.le_nil _ | refine Ks.le_cons rfl ?_))⟩
      · show l.length - (i + 1) < l.length - i; omega
      · exact ⟨S, by omega, nxtD g2 (Classical.not_not.1 z)⟩
  · skip
    all_goals (repeat' (first | (refine K_region (id := 7) ?_; refine mv ?_; refine KO_nil ?_)))
    refine K_ret ⟨_, rfl, ?_⟩
    exact ⟨.inl ⟨rfl, fun j hj => g2 j (by omega)⟩, S⟩
theorem delS_ok {h0 h : AH} {rs : List Rs} {v : SlV} {l : List (List UInt8)} {b : Nat} {g : Gst} (hl : l.length ≤ 1000000) (hgl : g.tg.length ≤ 1000000) (S : Hs h0 h (.sl v.val 9 1 eS l :: .blk b (eG g) 24 :: .sl g.tv.val 9 1 eS g.tg :: rs)) :
    Fn Tryz.prog Xh 77 [v.val, cvC b] h (fun u h' => Hs h0 h' (.sl u 9 1 eS (l.filter (keepC g)) :: .blk b (eG g) 24 :: .sl g.tv.val 9 1 eS g.tg :: rs)) := by
  refine Fn_K rfl Tryz.func77 rfl rfl ?_
  all_goals (repeat' (first | refine K_seq ?_ | (refine K_region (id := 0) ?_; refine mv ?_; refine KO_nil ?_) | (refine K_region (id := 1) ?_; refine mv ?_; refine mv ?_)))
  (refine KO_fn rfl rfl rfl rfl rfl ((idxC_ok S.wf (blk_get S (.there .here)) (Rd.of_sl S (.there (.there .here))) hgl v.val l (Rd.of_sl S .here) hl).mono ?_); rintro _ h ⟨⟨rfl, z⟩ | ⟨i0, rfl, z1, z2, z3⟩, x⟩) <;> (replace S := S.join0 x; clear x; refine mv ?_; refine KO_nil ?_)
  · all_goals (repeat' (first | refine K_seq ?_ | refine k_cond rfl ?_ | (refine K_region (id := 2) ?_; refine mv ?_; (refine cT ?_) <;> (refine KO_nil ?_)) | (refine K_region (id := 3) ?_; refine mv ?_; refine mv ?_; refine KO_nil ?_)))
    refine K_ret ⟨_, rfl, ?_⟩
    rw [List.filter_eq_self.2 fun t ht => by
      obtain ⟨j, hj, rfl⟩ := mem_iff_getD.1 ht
      exact keepC_yes (z j hj)]
    exact S
  · all_goals (repeat' (first | refine K_seq ?_ | refine k_cond rfl ?_ | refine K_skip ?_ | refine k_block ?_ | (refine K_region (id := 2) ?_; refine mv ?_; (refine cF ?_) <;> (refine KO_nil ?_)) | (refine K_region (id := 4) ?_; refine mv ?_; refine ad ?_; refine mv ?_; refine KO_nil ?_)))
    have hst : l.take i0 = (l.take (i0 + 1)).filter (keepC g) := by
      rw [take_succ_getD z1, List.filter_append, List.filter_cons, keepC_no z2, List.filter_eq_self.2 fun t ht => by
        obtain ⟨j, hj, rfl⟩ := mem_iff_getD.1 ht
        simp only [List.length_take] at hj
        rw [getD_take (by omega)]
        exact keepC_yes (z3 j (by omega))]
      simp
    refine k_loop (σ := Nat × Nat × List (List UInt8)) (fun (i, j, m) h' => Hs h0 h' (.sl v.val 9 1 eS m :: .blk b (eG g) 24 :: .sl g.tv.val 9 1 eS g.tg :: rs) ∧ (i < j ∧ j ≤ l.length) ∧ m.length = l.length ∧ m.take i = (l.take j).filter (keepC g) ∧ ∀ k, j ≤ k → k < l.length → m.getD k default = l.getD k default) (fun (i, j, m) => l.length - j) (fun (i, j, m) => [(0, v.val), (1, cvC b), (5, .int .i64 i), (6, .int .i64 j)]) (i0, i0 + 1, l) (by repeat (first | exact Ks.le_nil _ | refine Ks.le_cons rfl ?_)) ?_ ?_
    · exact ⟨S, by (try dsimp only); omega, rfl, hst, fun _ _ _ => rfl⟩
    clear S
    rintro ⟨i, j, m⟩ h ⟨S, k1, k2, k3, k4⟩
    unfold cvC
    all_goals (repeat' (first | refine K_seq ?_ | refine k_cond rfl ?_ | refine K_skip ?_ | refine K_exit ?_ | refine k_block ?_ | (refine K_region (id := 5) ?_; refine mv ?_; refine mv ?_; refine lnS S rfl rfl ?_; (first | (refine cS ?_ ?_ <;> intro hc)) <;> (refine KO_nil ?_))))
    · have hjl : j < l.length := by omega
      all_goals (repeat' (first | refine K_seq ?_ | (refine K_region (id := 7) ?_; refine mv ?_; refine mv ?_; refine ixS2 S rfl rfl ?_; refine lES2 S rfl rfl ?_; refine mv ?_; refine KO_nil ?_) | (refine K_region (id := 8) ?_; refine mv ?_; refine mv ?_)))
      simp only [Int.toNat_natCast] at *
      simp only [k4 j (Nat.le_refl _) hjl] at *
      (refine KO_call rfl rfl rfl rfl ((com1_ok S.wf (blk_get S (.there .here)) (Rd.of_sl S (.there (.there .here))) hgl (l.getD j default)).mono ?_); rintro _ h ⟨⟨rfl, y⟩ | ⟨rfl, y⟩, x⟩) <;> (replace S := S.join0 x; clear x; refine vl ?_; refine KO_nil ?_)
      · all_goals (repeat' (first | refine k_cond rfl ?_ | refine K_skip ?_ | (refine K_region (id := 6) ?_; refine mv ?_; refine ad ?_; refine mv ?_; refine KO_nil ?_)))
        refine ⟨(i, j + 1, m), ?_, ?_, (by repeat (first | exact Ks.le_nil _ | refine Ks.le_cons rfl ?_))⟩
        · show l.length - (j + 1) < l.length - j; omega
        · refine ⟨S, by (try dsimp only); omega, k2, ?_, fun k q1 q2 => k4 k (by (try dsimp only at q1); omega) q2⟩
          dsimp only
          rw [take_succ_getD hjl, List.filter_append, List.filter_cons, keepC_no y, k3]; simp
      · have y := Classical.not_not.1 y
        all_goals (repeat' (first | refine K_seq ?_ | refine k_cond rfl ?_ | (refine K_region (id := 9) ?_; refine mv ?_; refine mv ?_; refine mv ?_; refine ixS2 S rfl rfl ?_; (first | (refine sE2 S rfl rfl ?_; clear S; intro h S)); refine KO_nil ?_)))
        simp only [Int.toNat_natCast] at S
        all_goals (repeat' (first | (refine K_region (id := 6) ?_; refine mv ?_; refine ad ?_; refine mv ?_; refine KO_nil ?_) | (refine K_region (id := 10) ?_; refine mv ?_; refine ad ?_; refine mv ?_; refine KO_nil ?_)))
        refine ⟨(i + 1, j + 1, m.set i (l.getD j default)), ?_, ?_, (by repeat (first | exact Ks.le_nil _ | refine Ks.le_cons rfl ?_))⟩
        · show l.length - (j + 1) < l.length - j; omega
        · have hset : ∀ k, (m.set i (l.getD j default)).getD k default = if k = i then l.getD j default else m.getD k default := fun k => getD_set _ _ (by omega) k
          refine ⟨S, by (try dsimp only); omega, by simp; exact k2, ?_, fun k q1 q2 => ?_⟩
          · dsimp only
            rw [take_succ_getD hjl, List.filter_append, List.filter_cons, keepC_yes y, ← k3, take_succ_getD (by simp; omega), hset, if_pos rfl]
            congr 1
            apply eq_getD (by simp)
            intro k hk
            simp only [List.length_take, List.length_set] at hk
            rw [getD_take (by omega), getD_take (by omega), hset, if_neg (by omega)]
          · dsimp only at q1 ⊢
            rw [hset, if_neg (by omega)]
            exact k4 k (by omega) q2
    · have hj : j = l.length := by omega
      subst hj
      rw [List.take_length] at k3
      have S0 := S
      obtain ⟨f1, p1, p2, p3⟩ := S.sep
      rcases p1 with ⟨-, e0⟩ | ⟨b2, o, cc, slk, cap, e1, g1, fb, t1, c1, s1⟩
      · rw [e0] at k2; simp at k2; omega
      rw [e1]
      have w := S.wf
      have hfl := flatMap_length (enc := eS) (z := 1) (by intro _; rfl) m
      have hcap := c1.1
      have hcc := c1.2
      (repeat (refine K_seq ?_)); refine K_region (id := 11) ?_; refine mv ?_; refine mv ?_
      refine rw2 (l := i) (r := m.length) g1 (fun o2 q1 _ => ?_)
      have q2 : o2 = o + i * 1 := q1 (by omega)
      refine rwc g1 w (fun hd cd => ?_) (hfit := ?_)
      rotate_left
      · show o2 + (m.length - i) * 1 ≤ cc.length
        omega
      (refine KO_nil ?_)
      (repeat (refine K_seq ?_)); refine K_region (id := 12) ?_; refine mv ?_; refine mv ?_
      refine rw2 (l := 0) (r := i) cd.at_ (fun o3 q3 _ => ?_)
      have q4 : o3 = o := by have := q3 (by omega); omega
      (refine mv ?_; refine KO_nil ?_)
      skip
      all_goals (repeat' (fail))
      refine K_ret ⟨_, rfl, ?_⟩
      have hfil : l.filter (keepC g) = m.take i := k3.symm
      have htl : (m.take i).length = i := by simp; omega
      show Hs h0 hd (.sl (.slice (some ⟨b2, o3, none⟩) (i - 0) (cap - 0)) 9 1 eS (l.filter (keepC g)) :: .blk b (eG g) 24 :: .sl g.tv.val 9 1 eS g.tg :: rs)
      rw [hfil, q4]
      have htake := flatMap_take (enc := eS) (z := 1) (by intro _; rfl) m i
      have hzl : (zeroRow (Value.string { data := #[] }).cells.toList (m.length - i)).length = (m.length - i) * 1 := zrow_len _ _
      refine S0.turn .here cd.next cd.wf fun fp p1 p2 => ?_
      rcases p1 with ⟨p1, -⟩ | ⟨b3, o5, cc2, sl2, cap2, p1, -, p3, -⟩
      · rw [p1] at e1; cases e1
      obtain rfl : b3 = b2 := by rw [p1] at e1; cases e1; rfl
      refine ⟨fun j hj hf => cd.old j (fun q => by subst q; exact hf p3) hj, fun j => j = b3, .inr ⟨b3, o, _, slk, cap - 0, by rw [htl]; rfl, cd.at_, rfl, ?_, ⟨by rw [htl]; omega, ?_⟩, s1⟩, fun j hj => ?_⟩
      · rw [htl, htake]
        refine takeAt_ext ?_ ?_ fun k hk => ?_
        · rw [List.length_take, hfl]; omega
        · rw [splice_length _ _ _ (by rw [hzl]; omega)]; omega
        · rw [splice_get _ _ _ (by rw [hzl]; omega), if_pos (by omega), List.getElem?_take, if_pos hk]
          exact takeAt_get t1 (by omega)
      · rw [splice_length _ _ _ (by rw [hzl]; omega)]
        show o + (cap - 0) * 1 ≤ _
        omega
      · subst hj; exact ⟨cd.wf.lt cd.at_, .inl p3⟩
theorem common_ok {h0 : AH} (w : WfH h0) {p : Nat} {r : Rl} (B : BkRd h0 p r) (H : RO r) (na nb : List UInt8) : Fn Tryz.prog Xh 30 [.pointer (some ⟨p, 0, none⟩), str na, str nb] h0 (fun u h' => ∃ l, Hs h0 h' [.sl u 9 1 eS l] ∧ l = comF r na nb ∧ l.length ≤ 4) := by
  have S := Hs.start w
  refine Fn_K rfl Tryz.func30 rfl rfl ?_
  all_goals (repeat' (first | refine K_seq ?_ | (refine K_region (id := 0) ?_; refine mv ?_; refine KO_nil ?_) | (refine K_region (id := 1) ?_; refine mv ?_; refine mv ?_)))
  (refine KO_fn rfl rfl rfl rfl rfl ((find_ok S.wf (B.ext w S.ext) H na).mono ?_); rintro _ h (⟨i, tv, q1, rfl, x⟩ | ⟨q1, rfl, x⟩)) <;> ((first | replace S := S.join1 x | replace S := S.join0 x); clear x; refine mv ?_; refine vl ?_; refine vl ?_; (refine al S ?_; clear S; intro b h S); (first | (refine sB S rfl rfl ?_; clear S; intro h S)); refine mv ?_; refine KO_nil ?_)
  all_goals (all_goals (repeat' (first | refine K_seq ?_ | (refine K_region (id := 2) ?_; refine mv ?_; refine mv ?_))))
  all_goals (obtain ⟨b7, hnm⟩ : ∃ x, x = b := ⟨_, rfl⟩; subst hnm)
  · (refine KO_fn rfl rfl rfl rfl rfl ((find_ok S.wf (B.ext w S.ext) H nb).mono ?_); rintro _ h (⟨j, tv2, q2, rfl, x⟩ | ⟨q2, rfl, x⟩)) <;> ((first | replace S := S.join1 x | replace S := S.join0 x); clear x; refine mv ?_; refine vl ?_; refine vl ?_; (refine al S ?_; clear S; intro b h S); (first | (refine sB S rfl rfl ?_; clear S; intro h S)); refine mv ?_; refine KO_nil ?_)
    all_goals (all_goals (repeat' (first | refine K_seq ?_ | refine k_cond rfl ?_ | refine K_skip ?_ | (refine K_region (id := 3) ?_; refine mv ?_; refine vl ?_; refine mv ?_; refine mv ?_; refine vl ?_; refine vl ?_; refine KO_nil ?_) | (refine K_region (id := 4) ?_; refine mv ?_; refine KO_nil ?_))))
    all_goals (obtain ⟨b9, hnm⟩ : ∃ x, x = b := ⟨_, rfl⟩; subst hnm)
    · obtain ⟨i1, i2, -⟩ := gat_some q1
      obtain ⟨j1, j2, -⟩ := gat_some q2
      have t1 := (chkG_ok (H.chk _ (mem_getD i1))).2.2.2.1
      have t2 := (chkG_ok (H.chk _ (mem_getD j1))).2.2.2.1
      replace S : Hs h0 h (.blk b9 (eG ⟨r.us.getD j default, tv2⟩) 24 :: .sl tv2.val 9 1 eS (r.us.getD j default).tg :: .blk b7 (eG ⟨r.us.getD i default, tv⟩) 24 :: .sl tv.val 9 1 eS (r.us.getD i default).tg :: []) := S
      unfold eG at S
      all_goals (repeat' (first | (refine K_region (id := 5) ?_; refine vl ?_; refine lB S rfl rfl ?_; refine vl ?_)))
      replace S : Hs h0 h (.blk b9 (eG ⟨r.us.getD j default, tv2⟩) 24 :: .sl tv2.val 9 1 eS (r.us.getD j default).tg :: .blk b7 (eG ⟨r.us.getD i default, tv⟩) 24 :: .sl tv.val 9 1 eS (r.us.getD i default).tg :: []) := S
      have S := (show Hs h0 h (.sl tv.val 9 1 eS (r.us.getD i default).tg :: .blk b9 (eG ⟨r.us.getD j default, tv2⟩) 24 :: .sl tv2.val 9 1 eS (r.us.getD j default).tg :: .blk b7 (eG ⟨r.us.getD i default, tv⟩) 24 :: []) from S.pick)
      (refine KO_fn rfl rfl rfl rfl rfl ((delS_ok (g := ⟨r.us.getD j default, tv2⟩) (Nat.le_trans t1 (by decide)) (Nat.le_trans t2 (by decide)) S).mono ?_); rintro _ h S) <;> (refine mv ?_; refine KO_nil ?_)
      all_goals (repeat' (fail))
      refine K_ret ⟨_, rfl, ?_⟩
      have hle := List.length_filter_le (keepC ⟨r.us.getD j default, tv2⟩) (r.us.getD i default).tg
      exact ⟨_, S.only .here, by simp [comF, q1, q2]; rfl, Nat.le_trans hle t1⟩
    · refine K_ret ⟨_, rfl, ?_⟩
      exact ⟨[], (S.nilS (e := 9) (z := 1) (enc := eS)).only .here, by simp [comF, q1, q2], by simp⟩
  · (refine KO_fn rfl rfl rfl rfl rfl ((find_ok S.wf (B.ext w S.ext) H nb).mono ?_); rintro _ h (⟨j, tv2, q2, rfl, x⟩ | ⟨q2, rfl, x⟩)) <;> ((first | replace S := S.join1 x | replace S := S.join0 x); clear x; refine mv ?_; refine vl ?_; refine vl ?_; (refine al S ?_; clear S; intro b h S); (first | (refine sB S rfl rfl ?_; clear S; intro h S)); refine mv ?_; refine KO_nil ?_)
    all_goals (all_goals (repeat' (first | refine K_seq ?_ | refine k_cond rfl ?_ | (refine K_region (id := 3) ?_; refine mv ?_; refine vl ?_; refine mv ?_; refine off ?_; refine off ?_; refine vl ?_; refine KO_nil ?_) | (refine K_region (id := 4) ?_; refine mv ?_; refine KO_nil ?_))))
    all_goals (refine K_ret ⟨_, rfl, ?_⟩)
    all_goals exact ⟨[], (S.nilS (e := 9) (z := 1) (enc := eS)).only .here, by simp [comF, q1], by simp⟩
end Go.Proofs.Xx
