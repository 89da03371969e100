/-
  Texts there and back: what is written is read as it was; what is read is written as it was.
-/
import Derived.Test.YtnopenpheaihmaaGreatDoorM11
import Derived.Test.YtnopenpheaihmaaGreatDoorM10
import Derived.Test.YtnopenpheaihmaaGreatDoorM7
import Derived.Test.YtnopenpheaihmaaGreatDoorRows
import Derived.Lib.LaidTab
import Derived.Stop.LaidErr

namespace Go.Proofs.Xx
open Go Go.Proofs
set_option linter.unusedSimpArgs false
set_option linter.unusedVariables false
set_option maxRecDepth 100000

/-! numbers -/
def numB (s : List UInt8) : Bool := decide (1 ≤ s.length) && decide (s.length ≤ 9) && (decide (s.length ≤ 1) || !(s.getD 0 default == 48)) && s.all fun x => decide (48 ≤ x.toNat) && decide (x.toNat ≤ 57)
theorem numB_ok {s : List UInt8} (h : numB s = true) : numP s := by
  unfold numB at h
  simp only [Bool.and_eq_true, Bool.or_eq_true, decide_eq_true_eq, List.all_eq_true] at h
  obtain ⟨⟨⟨h1, h2⟩, h3⟩, h4⟩ := h
  refine ⟨h1, h2, fun q e => ?_, fun i hi => ?_⟩
  · rcases h3 with h3 | h3
    · omega
    · rw [e] at h3; exact absurd h3 (by decide)
  · have := h4 (s.getD i default) (memD hi)
    exact this
theorem dec_all : (List.range 1001).all (fun n => numB (decL n) && valD (decL n) == n) = true := by decide +kernel
theorem dec_ok {n : Nat} (h : n ≤ 1000) : numP (decL n) ∧ valD (decL n) = n := by
  have := List.all_eq_true.1 dec_all n (by simp; omega)
  rw [Bool.and_eq_true] at this
  exact ⟨numB_ok this.1, eq_of_beq this.2⟩
theorem numP.free {s : List UInt8} (h : numP s) {c : UInt8} (hc : ¬ digB c) : c ∉ s := fun q => by
  obtain ⟨i, hi, e⟩ := List.getElem_of_mem q
  have := h.2.2.2 i hi
  rw [show s.getD i default = c by simp [List.getD_eq_getElem?_getD, hi, e]] at this
  exact hc this
theorem u8n {x : UInt8} {n : Nat} (h : x.toNat = n) : UInt8.ofNat n = x := by rw [← h]; simp
/-- A number that is read is written as it was. -/
theorem dec_back {s : List UInt8} (h : numP s) (hv : valD s ≤ 1000) : decL (valD s) = s := by
  obtain ⟨h1, h2, h3, h4⟩ := h
  have d0 := h4 0
  have d1 := h4 1
  have d2 := h4 2
  have d3 := h4 3
  unfold digB at d0 d1 d2 d3
  match s, h1, h3, hv, d0, d1, d2, d3 with
  | [a], _, _, hv, d0, _, _, _ =>
    have d0 := d0 (by simp)
    simp only [List.getD_cons_zero] at d0
    have e : valD [a] = a.toNat - 48 := by simp [valD]
    rw [e]
    unfold decL
    rw [if_pos (by omega), u8n (x := a) (by omega)]
  | [a, b], _, h3, hv, d0, d1, _, _ =>
    have d0 := d0 (by simp)
    have d1 := d1 (by simp)
    have h3 := h3 (by simp)
    simp only [List.getD_cons_zero, List.getD_cons_succ] at d0 d1 h3
    have h3 : a.toNat ≠ 48 := fun q => h3 (UInt8.toNat.inj q)
    have e : valD [a, b] = 10 * (a.toNat - 48) + (b.toNat - 48) := by simp [valD]
    rw [e]
    unfold decL
    rw [if_neg (by omega), if_pos (by omega), u8n (x := a) (by omega), u8n (x := b) (by omega)]
  | [a, b, c], _, h3, hv, d0, d1, d2, _ =>
    have d0 := d0 (by simp)
    have d1 := d1 (by simp)
    have d2 := d2 (by simp)
    have h3 := h3 (by simp)
    simp only [List.getD_cons_zero, List.getD_cons_succ] at d0 d1 d2 h3
    have h3 : a.toNat ≠ 48 := fun q => h3 (UInt8.toNat.inj q)
    have e : valD [a, b, c] = 10 * (10 * (a.toNat - 48) + (b.toNat - 48)) + (c.toNat - 48) := by simp [valD]
    rw [e]
    unfold decL
    rw [if_neg (by omega), if_neg (by omega), if_pos (by omega), u8n (x := a) (by omega), u8n (x := b) (by omega), u8n (x := c) (by omega)]
  | a :: b :: c :: d :: r, _, h3, hv, d0, d1, d2, d3 =>
    have d0 := d0 (by simp)
    have d1 := d1 (by simp)
    have d2 := d2 (by simp)
    have d3 := d3 (by simp)
    have h3 := h3 (by simp)
    simp only [List.getD_cons_zero, List.getD_cons_succ] at d0 d1 d2 d3 h3
    have h3 : a.toNat ≠ 48 := fun q => h3 (UInt8.toNat.inj q)
    have mono : ∀ (r : List UInt8) (n : Nat), n ≤ r.foldl (fun n x => 10 * n + (x.toNat - 48)) n := fun r => by
      induction r with
      | nil => intro n; exact Nat.le_refl _
      | cons x r ih => intro n; exact Nat.le_trans (show n ≤ 10 * n + (x.toNat - 48) by omega) (ih _)
    have mono2 : ∀ (x : UInt8) (r : List UInt8) (n : Nat), 10 * n ≤ (x :: r).foldl (fun n x => 10 * n + (x.toNat - 48)) n := fun x r n => Nat.le_trans (show 10 * n ≤ 10 * n + (x.toNat - 48) by omega) (mono r _)
    have e : valD (a :: b :: c :: d :: r) = r.foldl (fun n x => 10 * n + (x.toNat - 48)) (10 * (10 * (10 * (a.toNat - 48) + (b.toNat - 48)) + (c.toNat - 48)) + (d.toNat - 48)) := by simp [valD]
    cases r with
    | nil =>
      have e : valD [a, b, c, d] = 10 * (10 * (10 * (a.toNat - 48) + (b.toNat - 48)) + (c.toNat - 48)) + (d.toNat - 48) := by simp [valD]
      rw [e] at hv
      have ea : a.toNat = 49 := by omega
      have eb : b.toNat = 48 := by omega
      have ec : c.toNat = 48 := by omega
      have ed : d.toNat = 48 := by omega
      rw [e, ea, eb, ec, ed]
      have ea : a = 49 := UInt8.toNat.inj ea
      have eb : b = 48 := UInt8.toNat.inj eb
      have ec : c = 48 := UInt8.toNat.inj ec
      have ed : d = 48 := UInt8.toNat.inj ed
      subst ea eb ec ed
      rfl
    | cons x r =>
      have := mono2 x r (10 * (10 * (10 * (a.toNat - 48) + (b.toNat - 48)) + (c.toNat - 48)) + (d.toNat - 48))
      rw [← e] at this
      omega
/-! pieces joined -/
theorem spl_words {c : UInt8} : ∀ {s u : List UInt8} {r : List (List UInt8)}, spl c s = u :: r → s = u ++ r.flatMap fun v => c :: v
  | [], u, r, h => by simp [spl] at h; obtain ⟨rfl, rfl⟩ := h; rfl
  | x :: s, u, r, h => by
    unfold spl at h
    cases hs : spl c s with
    | nil => exact absurd hs (spl_ne c s)
    | cons v q =>
      have ih := spl_words hs
      rw [hs] at h
      split at h
      · rename_i e
        injection h with h1 h2
        subst h1 h2 e
        rw [List.nil_append, List.flatMap_cons, List.cons_append, ← ih]
      · injection (show ([x] ++ v) :: q = u :: r from h) with h1 h2
        subst h1 h2
        rw [List.cons_append, List.nil_append, List.cons_append, ← ih]
theorem spl_mk {c : UInt8} : ∀ {u : List UInt8} {r : List (List UInt8)}, c ∉ u → (∀ v, v ∈ r → c ∉ v) → spl c (u ++ r.flatMap fun v => c :: v) = u :: r
  | u, [], hu, _ => by simp [spl_free hu]
  | u, v :: r, hu, hr => by
    rw [List.flatMap_cons, List.cons_append, spl_cut hu, spl_mk (hr v (by simp)) fun x hx => hr x (by simp [hx])]
end Go.Proofs.Xx

/-
  The text of a hall is read as this hall; a text that is read is the text of what is read.
-/
namespace Go.Proofs.Xx
open Go Go.Proofs
set_option linter.unusedSimpArgs false
set_option linter.unusedVariables false
set_option maxRecDepth 100000

def lineS (t : Tab) : List UInt8 := headT t ++ numsS (numsOf t)
def wordsT (t : Tab) : List (List UInt8) := [t.name, wd t] ++ (numsOf t).map dc
theorem fmtT_line (t : Tab) : fmtT t = lineS t ++ [10] := rfl
theorem lineS_words (t : Tab) : lineS t = wTable ++ (wordsT t).flatMap fun v => 32 :: v := by
  unfold lineS headT hdT wordsT numsS tWord wTable
  simp [List.flatMap_map]
theorem FmtOk.ok {t : Tab} (h : chk t = 0) : FmtOk t := .of h (by have := chk_small h; omega)
theorem wd_shp {t : Tab} (h : t.shape = 1 ∨ t.shape = 2 ∨ t.shape = 3 ∨ t.shape = 4) : shp (wd t) = t.shape := by
  unfold wd shp
  rcases h with h | h | h | h <;> rw [h] <;> decide
theorem wd_free {t : Tab} (c : UInt8) (hc : c = 32 ∨ c = 10) : c ∉ wd t := by
  unfold wd
  rcases hc with rfl | rfl <;> (repeat' split) <;> decide
theorem name_free {s : List UInt8} (h : nameP s) (c : UInt8) (hc : c = 32 ∨ c = 10) : c ∉ s := fun q => by
  obtain ⟨i, hi, e⟩ := List.getElem_of_mem q
  have := h.2.2 i hi
  rw [show s.getD i default = c by simp [List.getD_eq_getElem?_getD, hi, e]] at this
  unfold lowB at this
  rcases hc with rfl | rfl <;> exact absurd this (by decide)
section
variable {t : Tab} (h : chk t = 0)
include h
theorem nums_ok : ∀ z, z ∈ numsOf t → 0 ≤ z ∧ z ≤ 1000 := fun z hz => by
  obtain ⟨i, hi, rfl⟩ := List.getElem_of_mem hz
  have := (FmtOk.ok h).nums i hi
  simpa [List.getD_eq_getElem?_getD, hi] using this
theorem dc_ok {z : Int} (hz : z ∈ numsOf t) : numP (dc z) ∧ (valD (dc z) : Int) = z := by
  have := nums_ok h z hz
  obtain ⟨h1, h2⟩ := dec_ok (n := z.toNat) (by omega)
  exact ⟨h1, by unfold dc; rw [h2]; omega⟩
theorem words_free (c : UInt8) (hc : c = 32 ∨ c = 10) : ∀ v, v ∈ wordsT t → c ∉ v := fun v hv => by
  unfold wordsT at hv
  rcases List.mem_append.1 hv with hv | hv
  · rcases List.mem_cons.1 hv with rfl | hv
    · exact name_free (chk_zero h).1 c hc
    · obtain rfl : v = wd t := by simpa using hv
      exact wd_free c hc
  · obtain ⟨z, hz, rfl⟩ := List.mem_map.1 hv
    refine (dc_ok h hz).1.free ?_
    rcases hc with rfl | rfl <;> decide
theorem spl_line : spl 32 (lineS t) = wTable :: wordsT t := by
  rw [lineS_words]
  exact spl_mk (by decide) (words_free h 32 (.inl rfl))
theorem line_free : (10 : UInt8) ∉ lineS t := by
  rw [lineS_words]
  intro q
  rcases List.mem_append.1 q with q | q
  · exact absurd q (by decide)
  · obtain ⟨v, hv, hq⟩ := List.mem_flatMap.1 q
    rcases List.mem_cons.1 hq with hq | hq
    · exact absurd hq (by decide)
    · exact words_free h 10 (.inr rfl) v hv hq
theorem lineT_same : SameTab (lineT (wTable :: wordsT t)) t := by
  have hsh := (FmtOk.ok h).sh
  have hv := fun z (hz : z ∈ numsOf t) => (dc_ok h hz).2
  refine (sameTab_iff _ _).2 ⟨rfl, wd_shp hsh, hv t.A (by simp [numsOf]), hv t.B (by simp [numsOf]), hv t.X (by simp [numsOf]), hv t.Y (by simp [numsOf]), ?_⟩
  show ((wTable :: wordsT t).drop 7).map _ = t.opn
  have e : (wTable :: wordsT t).drop 7 = t.opn.map dc := by
    unfold wordsT numsOf
    simp
  rw [e, List.map_map]
  refine (List.map_congr_left (g := id) fun z hz => ?_).trans (List.map_id _)
  exact hv z (by simp [numsOf, hz])
theorem lineP_ok : LineP (wTable :: wordsT t) := by
  have hsh := (FmtOk.ok h).sh
  refine ⟨by simp [wordsT, numsOf], rfl, ?_, ?_, fun i h1 h2 => ?_⟩
  · have := (chk_zero h).1.1
    show t.name ≠ []
    intro q; rw [q] at this; simp at this
  · show shp (wd t) ≠ 0
    rw [wd_shp hsh]; omega
  · have hm : wAt (wTable :: wordsT t) i ∈ (numsOf t).map dc := by
      obtain ⟨j, rfl⟩ : ∃ j, i = j + 3 := ⟨i - 3, by omega⟩
      have e : wAt (wTable :: wordsT t) (j + 3) = ((numsOf t).map dc).getD j default := rfl
      rw [e]
      refine memD ?_
      simp only [wordsT, List.length_cons, List.length_append, List.length_nil] at h2
      omega
    obtain ⟨z, hz, e⟩ := List.mem_map.1 hm
    rw [← e]
    exact (dc_ok h hz).1
end
/-- A line that is accepted is written as it was. -/
theorem line_back {w : List UInt8} (hp : LineP (spl 32 w)) (hc : chk (lineT (spl 32 w)) = 0) : lineS (lineT (spl 32 w)) = w := by
  obtain ⟨h1, h2, h3, h4, h5⟩ := hp
  obtain ⟨ws, hws⟩ : ∃ ws, ws = spl 32 w := ⟨_, rfl⟩
  rw [← hws] at h1 h2 h3 h4 h5 hc ⊢
  have hn := nums_ok hc
  have h7 : ∃ w0 w1 w2 w3 w4 w5 w6 r, ws = w0 :: w1 :: w2 :: w3 :: w4 :: w5 :: w6 :: r := by
    clear hws h2 h3 h4 h5 hc hn
    match ws, h1 with
    | w0 :: w1 :: w2 :: w3 :: w4 :: w5 :: w6 :: r, _ => exact ⟨w0, w1, w2, w3, w4, w5, w6, r, rfl⟩
    | [], h => simp at h
    | [_], h => simp at h
    | [_, _], h => simp at h
    | [_, _, _], h => simp at h
    | [_, _, _, _], h => simp at h
    | [_, _, _, _, _], h => simp at h
    | [_, _, _, _, _, _], h => simp at h
  · obtain ⟨w0, w1, w2, w3, w4, w5, w6, r, rfl⟩ := h7
    have hw := spl_words hws.symm
    have h2 : w0 = wTable := h2
    subst h2
    rw [lineS_words, hw]
    congr 1
    have key : ∀ v, v ∈ w3 :: w4 :: w5 :: w6 :: r → dc (valD v) = v := fun v hv => by
      obtain ⟨i, hi, e⟩ := List.getElem_of_mem hv
      have hN : numP v := by
        have := h5 (i + 3) (by omega) (by simp at hi ⊢; omega)
        have e2 : wAt (wTable :: w1 :: w2 :: w3 :: w4 :: w5 :: w6 :: r) (i + 3) = (w3 :: w4 :: w5 :: w6 :: r).getD i default := rfl
        rw [e2, List.getD_eq_getElem?_getD, List.getElem?_eq_getElem hi, Option.getD_some, e] at this
        exact this
      have hb : (valD v : Int) ≤ 1000 := by
        refine (hn (valD v) ?_).2
        rcases List.mem_cons.1 hv with rfl | hv
        · exact List.mem_cons_self ..
        rcases List.mem_cons.1 hv with rfl | hv
        · exact List.mem_cons_of_mem _ (List.mem_cons_self ..)
        rcases List.mem_cons.1 hv with rfl | hv
        · exact List.mem_cons_of_mem _ (List.mem_cons_of_mem _ (List.mem_cons_self ..))
        rcases List.mem_cons.1 hv with rfl | hv
        · exact List.mem_cons_of_mem _ (List.mem_cons_of_mem _ (List.mem_cons_of_mem _ (List.mem_cons_self ..)))
        · exact List.mem_append_right _ (List.mem_map_of_mem (f := fun w => (valD w : Int)) hv)
      unfold dc
      rw [Int.toNat_natCast]
      exact dec_back hN (by omega)
    have hwd : wd (lineT (wTable :: w1 :: w2 :: w3 :: w4 :: w5 :: w6 :: r)) = w2 := by
      have h4 : shp w2 ≠ 0 := h4
      show (if shp w2 = 1 then wRound else if shp w2 = 2 then wLong else if shp w2 = 3 then wShoe else wRow) = w2
      unfold shp at h4 ⊢
      by_cases q1 : w2 = wRound
      · simp [q1]
      · by_cases q2 : w2 = wLong
        · subst q2; decide
        · by_cases q3 : w2 = wShoe
          · subst q3; decide
          · by_cases q4 : w2 = wRow
            · subst q4; decide
            · simp [q1, q2, q3, q4] at h4
    have e : wordsT (lineT (wTable :: w1 :: w2 :: w3 :: w4 :: w5 :: w6 :: r)) = w1 :: w2 :: w3 :: w4 :: w5 :: w6 :: r := by
      unfold wordsT
      rw [hwd]
      show [w1, w2] ++ ([dc (valD w3), dc (valD w4), dc (valD w5), dc (valD w6)] ++ (r.map fun w => (valD w : Int)).map dc) = _
      have er : (r.map fun w => (valD w : Int)).map dc = r := by
        rw [List.map_map]
        exact (List.map_congr_left (g := id) fun v hv => key v (by simp [hv])).trans (List.map_id _)
      rw [key w3 (by simp), key w4 (by simp), key w5 (by simp), key w6 (by simp), er]
      rfl
    rw [e]
/-! halls -/
abbrev uT (t : Tab) : Tab := lineT (spl 32 (lineS t))
theorem uT_same {t : Tab} (h : chk t = 0) : SameTab (uT t) t := by
  unfold uT
  rw [spl_line h]; exact lineT_same h
theorem spl_hall : ∀ {l : List Tab}, (∀ t, t ∈ l → chk t = 0) → spl 10 (l.flatMap fmtT) = l.map lineS ++ [[]]
  | [], _ => rfl
  | t :: l, h => by
    rw [List.flatMap_cons, fmtT_line, List.append_assoc, List.singleton_append, spl_cut (line_free (h t (by simp))), spl_hall fun x hx => h x (by simp [hx])]
    rfl
theorem fmtL_flat (l : List Tab) : ∀ i, i ≤ l.length → fmtL l i = (l.take i).flatMap fmtT
  | 0, _ => rfl
  | i + 1, hi => by
    show fmtL l i ++ fmtT (tb l i) = _
    have hi' : i < l.length := by omega
    have e : l.take (i + 1) = l.take i ++ [tb l i] := by
      rw [List.take_add_one, List.getElem?_eq_getElem hi']
      simp [tb, List.getD_eq_getElem?_getD, hi']
    rw [fmtL_flat l i (by omega), e, List.flatMap_append]
    simp
theorem fmtL_all (l : List Tab) : fmtL l l.length = l.flatMap fmtT := by rw [fmtL_flat l _ (Nat.le_refl _), List.take_length]
theorem tb_mem {l : List Tab} {j : Nat} (h : j < l.length) : tb l j ∈ l := memD h
theorem mem_tb {l : List Tab} {t : Tab} (h : t ∈ l) : ∃ j, j < l.length ∧ tb l j = t := by
  obtain ⟨i, hi, e⟩ := List.getElem_of_mem h
  exact ⟨i, hi, by simp [tb, List.getD_eq_getElem?_getD, hi, e]⟩
/-- What is written is read. -/
theorem prs_fmt : ∀ {l acc : List Tab} {i : Nat}, (∀ t, t ∈ l → chk t = 0) → l.Pairwise (fun a b => a.name ≠ b.name) → (∀ a, a ∈ acc → ∀ t, t ∈ l → a.name ≠ t.name) → acc.length + l.length ≤ 16 → prs acc i (l.map lineS ++ [[]]) = .ok (acc ++ l.map uT)
  | [], acc, i, _, _, _, _ => by simp [prs]
  | t :: l, acc, i, h1, h2, h3, h4 => by
    have hc := h1 t (by simp)
    have hs := uT_same hc
    have e : lineT (spl 32 (lineS t)) = uT t := rfl
    obtain ⟨h5, h6⟩ := List.pairwise_cons.1 h2
    simp only [List.length_cons] at h4
    rw [List.map_cons, List.cons_append, prs_go (by simp) (by rw [spl_line hc]; exact lineP_ok hc) (by rw [e, hs.chk]; exact hc) ?_ (by omega), e]
    · rw [prs_fmt (fun x hx => h1 x (by simp [hx])) h6 ?_ (by simp; omega)]
      · simp
      · intro a ha x hx
        rcases List.mem_append.1 ha with ha | ha
        · exact h3 a ha x (by simp [hx])
        · obtain rfl : a = uT t := by simpa using ha
          rw [hs.nm]; exact h5 x hx
    · rintro ⟨j, hj, q⟩
      rw [e, hs.nm] at q
      exact h3 _ (tb_mem hj) t (by simp) q
theorem valid_pw {l : List Tab} (h : ValidL l) : (∀ t, t ∈ l → chk t = 0) ∧ l.Pairwise (fun a b => a.name ≠ b.name) := by
  constructor
  · intro t ht
    obtain ⟨j, hj, rfl⟩ := mem_tb ht
    exact (h.2 j hj).1
  · rw [List.pairwise_iff_getElem]
    intro i j hi hj hij q
    refine (h.2 j hj).2 ⟨i, hij, ?_⟩
    simpa [tb, List.getD_eq_getElem?_getD, hi, hj] using q
/-- The text of a valid hall is read as this hall. -/
theorem parse_fmt {l : List Tab} (h : ValidL l) (hl : (fmtL l l.length).length ≤ 65536) : parseR (fmtL l l.length) = .ok (l.map uT) ∧ SameAll (l.map uT) l := by
  obtain ⟨h1, h2⟩ := valid_pw h
  constructor
  · unfold parseR
    rw [if_neg (by omega), fmtL_all, spl_hall h1]
    exact prs_fmt (acc := []) h1 h2 (fun a ha => by cases ha) (by simp; exact h.1)
  · refine ⟨by simp, fun i hi => ?_⟩
    have hi : i < l.length := by simpa using hi
    have e : tb (l.map uT) i = uT (tb l i) := by simp [tb, List.getD_eq_getElem?_getD, hi]
    rw [e]; exact uT_same (h1 _ (tb_mem hi))
/-- What is read is written. -/
theorem prs_back : ∀ {ls : List (List UInt8)} {acc l : List Tab} {i : Nat}, ls ≠ [] → prs acc i ls = .ok l → acc.length ≤ 16 → acc.Pairwise (fun a b => a.name ≠ b.name) → ∃ m, l = acc ++ m ∧ ls = m.map lineS ++ [[]] ∧ (∀ t, t ∈ m → chk t = 0) ∧ l.length ≤ 16 ∧ l.Pairwise (fun a b => a.name ≠ b.name)
  | [], _, _, _, h, _, _, _ => absurd rfl h
  | [w], acc, l, i, _, h, ha, hp => by
    by_cases q : w = []
    · subst q
      rw [prs_nil] at h
      cases h
      exact ⟨[], by simp, rfl, fun t ht => (by cases ht), ha, hp⟩
    · rw [prs_last q] at h; cases h
  | w :: u :: r, acc, l, i, _, h, ha, hp => by
    have hr : u :: r ≠ [] := by simp
    by_cases h1 : LineP (spl 32 w)
    · by_cases h2 : chk (lineT (spl 32 w)) = 0
      · by_cases h3 : ∃ j, j < acc.length ∧ (tb acc j).name = (lineT (spl 32 w)).name
        · rw [prs_dup hr h1 h2 h3] at h; cases h
        · by_cases h4 : acc.length = 16
          · rw [prs_many hr h1 h2 h3 h4] at h; cases h
          · rw [prs_go hr h1 h2 h3 h4] at h
            have hp2 : (acc ++ [lineT (spl 32 w)]).Pairwise (fun a b => a.name ≠ b.name) := by
              rw [List.pairwise_append]
              refine ⟨hp, List.pairwise_singleton _ _, fun a ha b hb => ?_⟩
              obtain rfl : b = lineT (spl 32 w) := by simpa using hb
              obtain ⟨j, hj, rfl⟩ := mem_tb ha
              exact fun q => h3 ⟨j, hj, q⟩
            obtain ⟨m, q1, q2, q3, q4, q5⟩ := prs_back hr h (by simp; omega) hp2
            refine ⟨lineT (spl 32 w) :: m, by rw [q1]; simp, ?_, fun t ht => ?_, q4, q5⟩
            · rw [q2, List.map_cons, line_back h1 h2]; rfl
            · rcases List.mem_cons.1 ht with rfl | ht
              · exact h2
              · exact q3 t ht
      · rw [prs_chk hr h1 h2] at h; cases h
    · rw [prs_form hr h1] at h; cases h
theorem spl_inj {c : UInt8} {s t : List UInt8} (h : spl c s = spl c t) : s = t := by
  cases hs : spl c s with
  | nil => exact absurd hs (spl_ne c s)
  | cons u r =>
    have h1 := spl_words hs
    rw [h] at hs
    exact h1.trans (spl_words hs).symm
theorem pw_valid {l : List Tab} (h1 : ∀ t, t ∈ l → chk t = 0) (h2 : l.Pairwise (fun a b => a.name ≠ b.name)) (h3 : l.length ≤ 16) : ValidL l := by
  refine ⟨h3, fun j hj => ⟨h1 _ (tb_mem hj), ?_⟩⟩
  rintro ⟨i, hi, q⟩
  rw [List.pairwise_iff_getElem] at h2
  refine h2 i j (by omega) hj hi ?_
  simpa [tb, List.getD_eq_getElem?_getD, show i < l.length by omega, hj] using q
theorem fmt_parse {s : List UInt8} {l : List Tab} (h : parseR s = .ok l) : ValidL l ∧ fmtL l l.length = s := by
  unfold parseR at h
  split at h
  · cases h
  · obtain ⟨m, q1, q2, q3, q4, q5⟩ := prs_back (spl_ne 10 s) h (Nat.zero_le _) .nil
    rw [List.nil_append] at q1
    subst q1
    refine ⟨pw_valid q3 q5 q4, ?_⟩
    rw [fmtL_all]
    exact spl_inj ((spl_hall q3).trans q2.symm)
theorem prs_badi : ∀ {ls : List (List UInt8)} {acc : List Tab} {i k : Nat} {e : Int}, prs acc i ls = .bad k e → k + 1 ≤ i + ls.length
  | [], acc, i, k, e, h => by simp [prs] at h
  | [w], acc, i, k, e, h => by
    by_cases q : w = []
    · subst q; rw [prs_nil] at h; cases h
    · rw [prs_last q] at h; cases h; simp
  | w :: u :: r, acc, i, k, e, h => by
    have hr : u :: r ≠ [] := by simp
    have fin : k = i → k + 1 ≤ i + (w :: u :: r).length := fun q => by simp; omega
    by_cases h1 : LineP (spl 32 w)
    · by_cases h2 : chk (lineT (spl 32 w)) = 0
      · by_cases h3 : ∃ j, j < acc.length ∧ (tb acc j).name = (lineT (spl 32 w)).name
        · rw [prs_dup hr h1 h2 h3] at h; cases h; exact fin rfl
        · by_cases h4 : acc.length = 16
          · rw [prs_many hr h1 h2 h3 h4] at h; cases h; exact fin rfl
          · rw [prs_go hr h1 h2 h3 h4] at h
            have := prs_badi h
            simp at this ⊢; omega
      · rw [prs_chk hr h1 h2] at h; cases h; exact fin rfl
    · rw [prs_form hr h1] at h; cases h; exact fin rfl
theorem parse_badi {s : List UInt8} {k : Nat} {e : Int} (h : parseR s = .bad k e) : k ≤ cntB 10 s := by
  unfold parseR at h
  split at h
  · cases h; exact Nat.zero_le _
  · have := prs_badi h
    have h2 := splL_len 10 s
    unfold cntB
    omega
theorem cnt_fmt {l : List Tab} (h : ∀ t, t ∈ l → chk t = 0) : cntB 10 (fmtL l l.length) = l.length := by
  have h1 := splL_len 10 (fmtL l l.length)
  rw [fmtL_all, spl_hall h] at h1
  unfold cntB
  rw [fmtL_all]
  simp at h1
  exact h1.symm
end Go.Proofs.Xx

/-
  HallRound: the text of a hall is read as this hall; a text that is read is the text of what is read.
-/
namespace Go.Proofs.Xx
open Go Go.Proofs
set_option linter.unusedSimpArgs false
set_option linter.unusedVariables false
set_option maxRecDepth 100000

theorem SameAll.trans {a b c : List Tab} (h1 : SameAll a b) (h2 : SameAll b c) : SameAll a c := ⟨h1.1.trans h2.1, fun i hi => (sameTab_iff _ _).2 (by
  have q1 := (sameTab_iff _ _).1 (h1.2 i hi)
  have q2 := (sameTab_iff _ _).1 (h2.2 i (by rw [← h1.1]; exact hi))
  exact ⟨q1.1.trans q2.1, q1.2.1.trans q2.2.1, q1.2.2.1.trans q2.2.2.1, q1.2.2.2.1.trans q2.2.2.2.1, q1.2.2.2.2.1.trans q2.2.2.2.2.1, q1.2.2.2.2.2.1.trans q2.2.2.2.2.2.1, q1.2.2.2.2.2.2.trans q2.2.2.2.2.2.2⟩)⟩
theorem fmtT_small {t : Tab} (h : chk t = 0) : (fmtT t).length ≤ 170 := by
  have h1 := headT_len (FmtOk.ok h)
  have h2 := numsS_len (numsOf t)
  have h3 := chk_small h
  simp only [fmtT, numsOf, List.length_append, List.length_cons, List.length_nil] at *
  omega
theorem fmtL_small {l : List Tab} (h : ∀ j, j < l.length → chk (tb l j) = 0) : ∀ i, i ≤ l.length → (fmtL l i).length ≤ 170 * i
  | 0, _ => Nat.le_refl _
  | i + 1, hi => by
    have h1 := fmtL_small h i (by omega)
    have h2 := fmtT_small (h i (by omega))
    simp only [fmtL, List.length_append]
    omega
theorem ParsedR.ok {s : List UInt8} {l2 m : List Tab} {i e : Int} (h : ParsedR s l2 i e) (hm : parseR s = .ok m) : SameAll l2 m ∧ i = 0 ∧ e = 0 := by
  rcases h with ⟨l, h1, h2, h3, h4⟩ | ⟨k, h1, -⟩
  · rw [h1] at hm; cases hm
    exact ⟨h2, h3, h4⟩
  · rw [h1] at hm; cases hm
set_option maxHeartbeats 1000000 in
theorem hallRound_true {h0 : AH} (w : WfH h0) (v : Value) (cs : List Cod) (A : CodesA h0 v cs) (text : List UInt8) (ht : text.length ≤ maxLen) : Fn Tryz.prog Xh 18 [v, str text] h0 (fun x _ => x = .bool true) := by
  have S := Hs.start w
  refine Fn_K rfl Tryz.func18 rfl rfl ?_
  all_goals (repeat' (first | refine K_seq ?_ | (refine K_region (id := 0) ?_; refine mv ?_; refine KO_nil ?_) | (refine K_region (id := 1) ?_; refine mv ?_)))
  (refine KO_fn rfl rfl rfl rfl rfl ((madeAll_ok S.wf v cs (A.ext w S.ext)).mono ?_); rintro vh h ⟨l, hm, x⟩) <;> (replace S := S.join2 x; clear x; refine mv ?_; refine KO_nil ?_)
  have H := hm.hallR S .here (.there .here)
  have hv := hm.valid
  have w1 := S.wf
  have hr := H.rd
  replace S := Hs.start w1
  obtain ⟨z, hz⟩ : ∃ z, z = fmtL l l.length := ⟨_, rfl⟩
  have hzl : z.length ≤ 65536 := by
    have := fmtL_small (fun j hj => (hv.2 j hj).1) l.length (Nat.le_refl _)
    have := hv.1
    rw [hz]; omega
  obtain ⟨hpf, hsf⟩ := parse_fmt hv (hz ▸ hzl)
  have hcnt := cnt_fmt (valid_pw hv).1
  rw [← hz] at hpf hcnt
  have hcnt2 : cntB (([10] : List UInt8).getD 0 0) z = l.length := hcnt
  all_goals (repeat' (first | refine K_seq ?_ | (refine K_region (id := 2) ?_; refine mv ?_)))
  (refine KO_fn rfl rfl rfl rfl rfl ((format_any S.wf vh l (H.ext w1 S.ext)).mono ?_); rintro r h ⟨q1, -, -, x⟩) <;> (replace S := S.join0 x; clear x; obtain rfl : r = str z := (hz ▸ q1 hv); refine mv ?_; refine KO_nil ?_)
  all_goals (repeat' (first | refine K_seq ?_ | (refine K_region (id := 3) ?_; refine mv ?_)))
  (refine KO_fn rfl rfl rfl rfl rfl ((parse_ok S.wf z).mono ?_); rintro _ h ⟨u, l2, i, e, rfl, hp, hu, x⟩) <;> (replace S := S.join0 x; clear x; obtain ⟨hs2, rfl, rfl⟩ := hp.ok hpf; refine mv ?_; refine vl ?_; refine vl ?_; refine vl ?_; refine mv ?_; refine mv ?_; refine mv ?_; refine KO_nil ?_)
  have w2 := S.wf
  replace H := H.ext w1 S.ext
  have hr2 := H.rd
  replace S := Hs.start w2
  have hsa := hs2.trans hsf
  all_goals (repeat' (first | refine K_seq ?_ | (refine K_region (id := 4) ?_; refine mv ?_; (refine cF ?_) <;> (refine mv ?_; refine mv ?_; (first | (refine cF ?_)) <;> (refine vl ?_; refine mv ?_; refine mv ?_; refine mv ?_; (skip))))))
  (refine KO_fn rfl rfl rfl rfl rfl ((same_ok S.wf u vh l2 l (hu.ext w2 S.ext).rd (H.ext w2 S.ext).rd (hu.ext w2 S.ext).tab (H.ext w2 S.ext).tab hu.len H.len).mono ?_); rintro _ h ⟨⟨rfl, q⟩ | ⟨rfl, q⟩, x⟩) <;> (replace S := S.join0 x; clear x; refine vl ?_; refine vl ?_; refine mv ?_; (first | refine off ?_ | refine mv ?_); (first | (refine off ?_; refine off ?_; refine off ?_; (refine off ?_) <;> (refine vl ?_; refine KO_nil ?_)) | skip))
  rotate_left
  · exact absurd hsa q
  (refine KO_fn rfl rfl rfl rfl rfl ((sCount_ok z [10] rfl).mono ?_); rintro _ h ⟨rfl, rfl⟩) <;> ((refine mv ?_); (first | (refine lnB S ?_)); (first | (refine cF ?_)) <;> (refine vl ?_; refine KO_nil ?_))
  all_goals (repeat' (first | refine K_seq ?_ | refine k_cond rfl ?_ | refine K_skip ?_ | (refine K_region (id := 6) ?_; refine mv ?_; refine tl ?_; (first | (refine cS ?_ ?_ <;> intro hc)) <;> (refine KO_nil ?_))))
  · all_goals (repeat' (first | (refine K_region (id := 7) ?_; skip)))
    (refine KO_fn rfl rfl rfl rfl rfl ((awake_ok).mono ?_); rintro _ h ⟨rfl, rfl⟩) <;> (refine mv ?_; refine KO_nil ?_)
    all_goals (repeat' (fail))
    refine K_ret ⟨_, rfl, ?_⟩
    rfl
  clear hr2 hr
  all_goals (repeat' (first | (refine K_region (id := 8) ?_; refine mv ?_)))
  (refine KO_fn rfl rfl rfl rfl rfl ((parse_ok S.wf text).mono ?_); rintro _ h ⟨u2, l3, i, e, rfl, hp3, hu3, x⟩) <;> (replace S := S.join0 x; clear x; refine mv ?_; refine vl ?_; refine vl ?_; refine vl ?_; refine mv ?_; refine mv ?_; refine mv ?_; refine KO_nil ?_)
  have w3 := S.wf
  have hr3 := hu3.rd
  replace S := Hs.start w3
  rcases hp3 with ⟨m, g1, g2, rfl, rfl⟩ | ⟨k, g1, rfl, hl3, g2⟩
  · have hv3 := g2.valid.2 (fmt_parse g1).1
    have hft := (fmt_parse g1).2
    all_goals (repeat' (first | refine K_seq ?_ | refine k_cond rfl ?_ | refine K_skip ?_ | (refine K_region (id := 9) ?_; refine mv ?_; (refine cF ?_) <;> (refine KO_nil ?_)) | (refine K_region (id := 11) ?_; refine mv ?_)))
    (refine KO_fn rfl rfl rfl rfl rfl ((format_any S.wf u2 l3 (hu3.ext w3 S.ext)).mono ?_); rintro r h ⟨q1, -, -, x⟩) <;> (replace S := S.join0 x; clear x; obtain rfl : r = str text := (by rw [q1 hv3, g2.fmt _ (Nat.le_refl _), g2.1, hft]); refine mv ?_; (refine tS ?_ ?_ <;> intro hc) <;> (refine mv ?_; (first | refine off ?_ | refine mv ?_); (first | refine off ?_ | (refine cT ?_)) <;> (refine vl ?_; refine mv ?_; (first | (refine off ?_; refine vl ?_; refine mv ?_; refine KO_nil ?_) | skip))))
    · (refine KO_fn rfl rfl rfl rfl rfl ((awake_ok).mono ?_); rintro _ h ⟨rfl, rfl⟩) <;> (refine vl ?_; refine mv ?_; refine KO_nil ?_)
      all_goals (repeat' (fail))
      refine K_ret ⟨_, rfl, ?_⟩
      rfl
    · exact absurd rfl hc
  · have hl : l3.length = 0 := by rw [hl3]; rfl
    have hk : k ≤ cntB (([10] : List UInt8).getD 0 0) text := parse_badi g1
    all_goals (repeat' (first | refine K_seq ?_ | refine k_cond rfl ?_ | (refine K_region (id := 9) ?_; refine mv ?_; (refine cT ?_) <;> (refine KO_nil ?_)) | (refine K_region (id := 10) ?_; refine mv ?_; refine lnB S ?_; (refine cT ?_) <;> (refine mv ?_; refine mv ?_; (first | (refine cT ?_)) <;> (refine vl ?_; refine mv ?_; refine mv ?_; refine mv ?_; (skip))))))
    (refine KO_fn rfl rfl rfl rfl rfl ((sCount_ok text [10] rfl).mono ?_); rintro _ h ⟨rfl, rfl⟩) <;> ((first | (refine cT ?_)) <;> (refine vl ?_; refine mv ?_; (skip)))
    (refine KO_fn rfl rfl rfl rfl rfl ((awake_ok).mono ?_); rintro _ h ⟨rfl, rfl⟩) <;> (refine vl ?_; refine mv ?_; refine KO_nil ?_)
    all_goals (repeat' (fail))
    refine K_ret ⟨_, rfl, ?_⟩
    rfl
theorem hallRound_core (h : AH) (us : List Value) (w : WfH h) (a : ArgsR Tryz.prog h Tryz.f18.params.toList us) : Fn Tryz.prog Xh 18 us h (fun x _ => x = .bool true) := by
  rw [show Tryz.f18.params.toList = [35, 9] by kernel_rfl] at a
  obtain ⟨n0, r0, us, rfl, a0, a⟩ := a.cons_inv
  obtain ⟨n1, r1, us, rfl, a1, a⟩ := a.cons_inv
  obtain rfl := a.nil_inv
  obtain ⟨v, l, rfl, A⟩ := AR.codes1 a0
  obtain ⟨s, rfl, hs⟩ := a1.str1 (by kernel_rfl)
  exact hallRound_true w v l A s hs
end Go.Proofs.Xx

/-
  What is known of the listed variables (nothing is asked of them here); a block of cells that is there in every world.
-/
namespace Go.Proofs.Xx
open Go Go.RowKit Go.Proofs
theorem Xh_none (f : FuncId) (h1 : f ≠ 21) (h2 : f ≠ 200) (h3 : f ≠ 224) (h4 : f ≠ 111) (h5 : f ≠ 108) (h6 : f ≠ 121) (h7 : f ≠ 228) (us : List Value) (h : AH) : Xh f us h = none := by
  have e : ∀ n, f ≠ n → Nat.beq f n = false := fun n q => by rw [Bool.eq_false_iff]; intro q'; exact q (Nat.eq_of_beq_eq_true q')
  unfold Xh withDec withDigits withKnown withBytes externNoEscape
  simp only [e _ h1, e _ h2, e _ h3, e _ h4, e _ h5, e _ h6, e _ h7]
theorem gDe : Tryz.prog.globalNamed "math/bits.deBruijn32tab" = some 2 := by kernel_rfl
theorem gDeType : (Tryz.prog.globals[2]?).map (·.type) = some 211 := by kernel_rfl
theorem cell_block {W : World} {b o : Nat} {v : Value} (h : W.cell? ⟨b, o, none⟩ = some v) : ∃ (k : Nat) (cc : Array Value) (el : TypeId) (fr : Nat × Nat), W.heap[k]? = some (.cells cc el fr) := by
  unfold World.cell? at h
  split at h
  · rename_i c e f hc; exact ⟨b, c, e, f, hc⟩
  · cases h
theorem cells_there {W : World} {rest : List (String × DataW Unit)} (h : laidMet Tryz.prog (("math/bits.deBruijn32tab", YtnopenpheaihmaaGreatDoor.Rows.laid_math_bits_deBruijn32tab) :: rest) W) :
    ∃ (k : Nat) (cc : Array Value) (el : TypeId) (fr : Nat × Nat), W.heap[k]? = some (.cells cc el fr) := by
  have t : Lib.TabIs Tryz.prog W "math/bits.deBruijn32tab" .u8 [0, 1, 28, 2, 29, 14, 24, 3, 30, 22, 20, 15, 25, 17, 4, 8, 31, 27, 13, 23, 21, 19, 16, 7, 26, 12, 18, 6, 11, 5, 10, 9] :=
    Lib.tabIs_of_head gDe gDeType (n := 32) (e := 5) (by kernel_rfl) (by kernel_rfl) (by kernel_rfl) (by kernel_rfl) h
  exact cell_block (t.cell gDe 0 (by decide))
theorem gPowType : (Tryz.prog.globals[1]?).map (·.type) = some 206 := by kernel_rfl
theorem pow10_there {W : World} {x y : String × DataW Unit} {rest : List (String × DataW Unit)} (h : laidMet Tryz.prog (x :: y :: ("internal/strconv.uint64pow10", YtnopenpheaihmaaGreatDoor.Rows.laid_internal_strconv_uint64pow10) :: rest) W) :
    Glob.ok W.heap.size W.heap := by
  have t : Lib.TabIs Tryz.prog W "internal/strconv.uint64pow10" .u64 Lib.pow10Tab :=
    Lib.tabIs_of_head gPow gPowType (n := 20) (e := 177) (by kernel_rfl) (by kernel_rfl) (by kernel_rfl) (by kernel_rfl) (laidMet.tail (laidMet.tail h))
  unfold Lib.TabIs World.var? at t
  rw [gPow] at t
  simp only [Option.bind_some] at t
  split at t
  · rename_i cs el fr hc
    cases t
    exact ⟨(Array.getElem?_eq_some_iff.1 hc).1, el, fr, hc⟩
  · cases t
end Go.Proofs.Xx
