/-
  Blocks of places that reach each other.
-/
import Derived.Test.YtnopenpheaihmaaGreatDoorM6
import Derived.Test.YtnopenpheaihmaaGreatDoorM9
import Derived.Test.YtnopenpheaihmaaGreatDoorM11
import Derived.Test.YtnopenpheaihmaaGreatDoorM5
import Derived.Test.YtnopenpheaihmaaGreatDoorRows
import Derived.Lib.LaidTab

namespace Go.Proofs.Xx
set_option linter.unusedVariables false

section
variable {N : Int → Int → Prop} {n : Nat}
def Rch (N : Int → Int → Prop) (n k m : Nat) : Prop := ∃ d, Wk N n k d m
theorem Rch.refl (k : Nat) : Rch N n k k := ⟨0, rfl⟩
theorem Wk.trans {s y : Nat} {d : Nat} (h : Wk N n s d y) : ∀ {e z : Nat}, Wk N n y e z → Wk N n s (d + e) z
  | 0, z, g => by
    have : z = y := g
    subst this; exact h
  | e + 1, z, ⟨x, hx, g, hn⟩ => ⟨x, hx, Wk.trans h g, hn⟩
theorem Wk.symm (hN : ∀ x y, N x y → N y x) {s : Nat} (hs : s < n) : ∀ {d y : Nat}, y < n → Wk N n s d y → Wk N n y d s
  | 0, y, hy, h => Eq.symm (show y = s from h)
  | d + 1, y, hy, ⟨x, hx, h, hn⟩ => by
    have h1 : Wk N n y 1 x := ⟨y, hy, rfl, hN _ _ hn⟩
    have := Wk.trans h1 (Wk.symm hN hs hx h)
    rwa [Nat.add_comm] at this
theorem Rch.trans {a b c : Nat} (h : Rch N n a b) (g : Rch N n b c) : Rch N n a c := by
  obtain ⟨d, h⟩ := h
  obtain ⟨e, g⟩ := g
  exact ⟨d + e, h.trans g⟩
theorem Rch.symm (hN : ∀ x y, N x y → N y x) {a b : Nat} (ha : a < n) (hb : b < n) (h : Rch N n a b) : Rch N n b a := by
  obtain ⟨d, h⟩ := h
  exact ⟨d, h.symm hN ha hb⟩
theorem DistL.rch {s : Nat} {l : List Int} (h : DistL N n s l) {y : Nat} (hy : y < n) : 0 ≤ l.getD y default ↔ Rch N n s y := by
  rcases h.2 y hy with ⟨h1, h2⟩ | ⟨d, h1, h2⟩
  · exact ⟨fun q => by omega, fun ⟨d, q⟩ => absurd q (h2 d)⟩
  · exact ⟨fun _ => ⟨d, h2.1⟩, fun _ => by omega⟩

open Classical in
/-- What k reaches among the first m. -/
noncomputable def blkPre (N : Int → Int → Prop) (n : Nat) (f : Int) (k : Nat) : Nat → List Int
  | 0 => []
  | m + 1 => if Rch N n k m then blkPre N n f k m ++ [f + (m : Int)] else blkPre N n f k m
theorem blkPre_len (f : Int) (k : Nat) : ∀ m, (blkPre N n f k m).length ≤ m
  | 0 => Nat.le_refl _
  | m + 1 => by
    have := blkPre_len f k m
    unfold blkPre
    split
    · simp; omega
    · omega
def leastP (N : Int → Int → Prop) (n k : Nat) : Prop := ∀ m, m < n → Rch N n k m → k ≤ m
open Classical in
/-- The blocks whose least place is among the first m. -/
noncomputable def blksPre (N : Int → Int → Prop) (n : Nat) (f : Int) : Nat → List (List Int)
  | 0 => []
  | m + 1 => if leastP N n m then blksPre N n f m ++ [blkPre N n f m n] else blksPre N n f m
theorem blksPre_len (f : Int) : ∀ m, (blksPre N n f m).length ≤ m
  | 0 => Nat.le_refl _
  | m + 1 => by
    have := blksPre_len f m
    unfold blksPre
    split
    · simp; omega
    · omega
theorem blkPre_mem (f : Int) (k : Nat) : ∀ (m : Nat) (x : Int), x ∈ blkPre N n f k m ↔ ∃ j : Nat, j < m ∧ Rch N n k j ∧ x = f + (j : Int)
  | 0, x => by simp [blkPre]
  | m + 1, x => by
    have ih := blkPre_mem f k m x
    unfold blkPre
    split
    · rename_i h
      rw [List.mem_append, ih, List.mem_singleton]
      constructor
      · rintro (⟨j, h1, h2, h3⟩ | h1)
        · exact ⟨j, by omega, h2, h3⟩
        · exact ⟨m, by omega, h, h1⟩
      · rintro ⟨j, h1, h2, h3⟩
        rcases Nat.lt_or_ge j m with q | q
        · exact .inl ⟨j, q, h2, h3⟩
        · have : j = m := by omega
          subst this; exact .inr h3
    · rename_i h
      rw [ih]
      constructor
      · rintro ⟨j, h1, h2, h3⟩; exact ⟨j, by omega, h2, h3⟩
      · rintro ⟨j, h1, h2, h3⟩
        rcases Nat.lt_or_ge j m with q | q
        · exact ⟨j, q, h2, h3⟩
        · have : j = m := by omega
          subst this; exact absurd h2 h
end
end Go.Proofs.Xx

/-
  Lists of lists; the blocks of a table.
-/
namespace Go.Proofs.Xx
open Go Go.Proofs
set_option linter.unusedSimpArgs false
set_option linter.unusedVariables false
set_option maxRecDepth 100000

/-- The values vs read as the lists ls. -/
def LLs (vs : List Value) (ls : List (List Int)) (h : AH) (fp : Fp) : Prop := vs.length = ls.length ∧ ∀ j, j < ls.length → RdL h (vs.getD j default) 1 eI (ls.getD j default)
def RLL (h : AH) (v : Value) (ls : List (List Int)) : Prop := ∃ vs, RdL h v 1 eV vs ∧ vs.length = ls.length ∧ ∀ j, j < ls.length → RdL h (vs.getD j default) 1 eI (ls.getD j default)
theorem RLL.ext {h h' : AH} {v : Value} {ls : List (List Int)} (r : RLL h v ls) (w : WfH h) (x : Ext h h') : RLL h' v ls := by
  obtain ⟨vs, h1, h2, h3⟩ := r
  exact ⟨vs, h1.ext w x, h2, fun j hj => (h3 j hj).ext w x⟩
theorem RLL.nil {h : AH} : RLL h (.slice none 0 0) [] := ⟨[], Rd.none_ h 1, rfl, fun j hj => absurd hj (Nat.not_lt_zero _)⟩
theorem LLs.nil (h : AH) (fp : Fp) : LLs [] [] h fp := ⟨rfl, fun j hj => absurd hj (Nat.not_lt_zero _)⟩
theorem getD_snoc1 {α : Type} [Inhabited α] (l : List α) (x : α) {j : Nat} (h : j < l.length) : (l ++ [x]).getD j default = l.getD j default := by
  simp only [List.getD_eq_getElem?_getD, List.getElem?_append_left h]
theorem getD_snoc2 {α : Type} [Inhabited α] (l : List α) (x : α) {j : Nat} (h : j = l.length) : (l ++ [x]).getD j default = x := by
  subst h
  simp only [List.getD_eq_getElem?_getD, List.getElem?_append_right (Nat.le_refl _), Nat.sub_self, List.getElem?_cons_zero, Option.getD_some]
/-- A list of one's own is put behind the lists that are read. -/
theorem Hs.pushLL {h0 h : AH} {rs : List Rs} {b : Value} {e : TypeId} {l : List Int} {vs : List Value} {ls : List (List Int)} (S : Hs h0 h (.sl b e 1 eI l :: .any (LLs vs ls) :: rs)) : Hs h0 h (.any (LLs (vs ++ [b]) (ls ++ [l])) :: rs) :=
  S.merge fun f1 f2 k1 k2 h'' hh => by
    have k2 := k2 h'' fun b hb => hh b (.inr hb)
    have k1 := k1.local fun b hb => hh b (.inl hb)
    refine ⟨by simp [k2.1], fun j hj => ?_⟩
    rw [List.length_append, List.length_cons, List.length_nil] at hj
    rcases Nat.lt_or_ge j ls.length with q | q
    · rw [getD_snoc1 _ _ (by rw [k2.1]; exact q), getD_snoc1 _ _ q]; exact k2.2 j q
    · rw [getD_snoc2 _ _ (by rw [k2.1]; omega), getD_snoc2 _ _ (by omega)]
      rcases k1 with ⟨rfl, rfl⟩ | ⟨b', o, cc, slk, g1, g2, g3, g4, g5⟩
      · exact Rd.none_ _ 1
      · exact .inr ⟨b', o, _, cc, e, slk, false, g1, g2, g4⟩
theorem RLL.of {h0 h : AH} {rs : List Rs} {v : Value} {e : TypeId} {vs : List Value} {ls : List (List Int)} (S : Hs h0 h rs) (a : At rs (.sl v e 1 eV vs)) (b : At rs (.any (LLs vs ls))) : RLL h v ls := by
  obtain ⟨fp, k⟩ := S.anyP b
  exact ⟨vs, Rd.of_sl S a, k.1, k.2⟩

theorem equalLL_ok {h0 : AH} (w : WfH h0) (v u : Value) (ls ms : List (List Int)) (hv : RLL h0 v ls) (hu : RLL h0 u ms) (hl : ls.length ≤ 1000000) (hm : ms.length ≤ 1000000) (hb1 : ∀ j, j < ls.length → (ls.getD j default).length ≤ 1000000) (hb2 : ∀ j, j < ms.length → (ms.getD j default).length ≤ 1000000) :
    Fn Tryz.prog Xh 101 [v, u, .func (.func 59) #[] #[]] h0 (fun r h' => BoolIs r (ls = ms) ∧ Hs h0 h' []) := by
  have S := Hs.start w
  obtain ⟨vs, v1, v2, v3⟩ := hv
  obtain ⟨us, u1, u2, u3⟩ := hu
  refine Fn_K rfl Tryz.func101 rfl rfl ?_
  all_goals (repeat' (first | refine K_seq ?_ | refine k_cond rfl ?_ | refine K_skip ?_ | refine K_exit ?_ | refine k_block ?_ | refine K_scope ?_ | (refine K_region (id := 0) ?_; refine mv ?_; refine KO_nil ?_) | (refine K_region (id := 1) ?_; refine mv ?_; (first | refine lnB S ?_ | refine lnS S rfl rfl ?_); refine mv ?_; (first | refine lnB S ?_ | refine lnS S rfl rfl ?_); (first | refine cT ?_ | refine cF ?_ | (refine cS ?_ ?_ <;> intro hc)) <;> (refine KO_nil ?_)) | (refine K_region (id := 2) ?_; refine mv ?_; refine KO_nil ?_) | (refine K_region (id := 3) ?_; refine mv ?_; (first | refine lnB S ?_ | refine lnS S rfl rfl ?_); refine mv ?_; refine KO_nil ?_)))
  · refine K_ret ⟨_, rfl, ?_⟩
    exact ⟨.inr ⟨rfl, fun q => hc (by rw [v2, u2, q])⟩, S⟩
  · refine k_loop (σ := Nat) (fun i h' => Hs h0 h' [] ∧ i ≤ vs.length ∧ ∀ j, j < i → ls.getD j default = ms.getD j default) (fun i => vs.length - i) (fun i => [(1, u), (2, .func (.func 59) #[] #[]), (15, v), (16, .int .i64 vs.length), (17, .int .i64 i)]) 0 (by repeat (first | exact Ks.le_nil _ | refine Ks.le_cons rfl ?_ | refine Ks.le_int ?_)) ?_ ?_
    · exact ⟨S, Nat.zero_le _, fun j hj => absurd hj (Nat.not_lt_zero _)⟩
    clear S
    rintro i h ⟨S, h1, h2⟩
    have hlm : vs.length = us.length := by omega
    all_goals (repeat' (first | refine K_seq ?_ | refine k_cond rfl ?_ | refine K_skip ?_ | refine K_exit ?_ | refine k_block ?_ | refine K_scope ?_ | (refine K_region (id := 4) ?_; (first | refine cT ?_ | refine cF ?_ | (refine cS ?_ ?_ <;> intro hc)) <;> (refine KO_nil ?_)) | (refine K_region (id := 5) ?_; refine mv ?_; (first | refine ixB S ?_ | refine ixS2 S rfl rfl ?_); (first | refine lB S rfl rfl ?_ | refine lES2 S rfl rfl ?_ | refine lEB S ?_ | refine lH S ?_); refine mv ?_; refine mv ?_; refine KO_nil ?_) | (refine K_region (id := 6) ?_; refine mv ?_; refine mv ?_; (first | refine ixB S ?_ | refine ixS2 S rfl rfl ?_); (first | refine lB S rfl rfl ?_ | refine lES2 S rfl rfl ?_ | refine lEB S ?_ | refine lH S ?_); refine mv ?_; refine KO_nil ?_) | (refine K_region (id := 7) ?_; refine mv ?_; refine mv ?_; refine mv ?_; skip) | (refine K_region (id := 10) ?_; refine mv ?_; refine KO_nil ?_)))
    · (try simp only [Int.toNat_natCast] at *)
      have hi : i < vs.length := by omega
      (refine KO_call rfl rfl rfl rfl ((equal_ok S.wf (vs.getD i default) (us.getD i default) (ls.getD i default) (ms.getD i default) ((v3 i (by omega)).ext w S.ext) ((u3 i (by omega)).ext w S.ext) (hb1 i (by omega)) (hb2 i (by omega))).mono ?_); rintro _ h ⟨⟨rfl, hq⟩ | ⟨rfl, hq⟩, x⟩) <;> (replace S := S.join0 x; clear x; refine vl ?_; refine KO_nil ?_)
      all_goals (repeat' (first | refine K_seq ?_ | refine k_cond rfl ?_ | refine K_skip ?_ | refine K_exit ?_ | refine k_block ?_ | refine K_scope ?_ | (refine K_region (id := 8) ?_; refine mv ?_; refine KO_nil ?_) | (refine K_region (id := 9) ?_; (first | refine ad ?_ | refine vl ?_); refine mv ?_; refine KO_nil ?_)))
      · refine ⟨i + 1, ?_, ?_, (by repeat (first | exact Ks.le_nil _ | refine Ks.le_cons rfl ?_ | refine Ks.le_int ?_))⟩
        · show vs.length - (i + 1) < vs.length - i; omega
        · refine ⟨S.drop, by omega, fun j hj => ?_⟩
          rcases Nat.lt_or_ge j i with q | q
          · exact h2 j q
          · obtain rfl : j = i := by omega
            exact hq
      · refine K_ret ⟨_, rfl, ?_⟩
        exact ⟨.inr ⟨rfl, fun q => hq (by rw [q])⟩, S.drop⟩
    · refine K_ret ⟨_, rfl, ?_⟩
      exact ⟨.inl ⟨rfl, ext_getD (by omega) fun j hj => h2 j (by omega)⟩, S⟩
theorem sameLists_ok {h0 : AH} (w : WfH h0) (v u : Value) (ls ms : List (List Int)) (hv : RLL h0 v ls) (hu : RLL h0 u ms) (hl : ls.length ≤ 1000000) (hm : ms.length ≤ 1000000) (hb1 : ∀ j, j < ls.length → (ls.getD j default).length ≤ 1000000) (hb2 : ∀ j, j < ms.length → (ms.getD j default).length ≤ 1000000) :
    Fn Tryz.prog Xh 42 [v, u] h0 (fun r h' => BoolIs r (ls = ms) ∧ Hs h0 h' []) := by
  have S := Hs.start w
  refine Fn_K rfl Tryz.func42 rfl rfl ?_
  all_goals (repeat' (first | refine K_seq ?_ | refine k_cond rfl ?_ | refine K_skip ?_ | refine K_exit ?_ | refine k_block ?_ | refine K_scope ?_ | (refine K_region (id := 0) ?_; refine mv ?_; refine KO_nil ?_) | (refine K_region (id := 1) ?_; refine mv ?_; refine mv ?_)))
  (refine KO_fn rfl rfl rfl rfl rfl ((equalLL_ok S.wf v u ls ms hv hu hl hm hb1 hb2).mono ?_); rintro _ h ⟨hq, x⟩) <;> (replace S := S.join0 x; clear x; refine mv ?_; refine KO_nil ?_)
  all_goals (repeat' (first | refine K_seq ?_ | refine k_cond rfl ?_ | refine K_skip ?_ | refine K_exit ?_ | refine k_block ?_ | refine K_scope ?_))
  refine K_ret ⟨_, rfl, ?_⟩
  exact ⟨hq, S⟩

def BlkR (l : List Tab) (t : Int) (ls : List (List Int)) : Prop :=
  (∃ i n : Nat, t = i ∧ i < l.length ∧ ValidL l ∧ tsize (tb l i) = n ∧ ls = blksPre (nearP (tb l i)) n (sumT l i) n) ∨ (¬ (0 ≤ t ∧ t < l.length ∧ ValidL l) ∧ ls = [])
theorem BlkR.unique {l : List Tab} {t : Int} {a b : List (List Int)} (ha : BlkR l t a) (hb : BlkR l t b) : a = b := by
  rcases ha with ⟨i, n, rfl, h1, h2, h3, rfl⟩ | ⟨h1, rfl⟩ <;> rcases hb with ⟨i', n', e, g1, g2, g3, rfl⟩ | ⟨g1, rfl⟩
  · obtain rfl : i = i' := by omega
    obtain rfl : n = n' := by omega
    rfl
  · exact absurd ⟨by omega, by omega, h2⟩ g1
  · exact absurd ⟨by omega, by omega, g2⟩ h1
  · rfl
theorem blksPre_in (N : Int → Int → Prop) (n : Nat) (f : Int) : ∀ (m j : Nat), j < (blksPre N n f m).length → ((blksPre N n f m).getD j default).length ≤ n
  | 0, j, h => by simp [blksPre] at h
  | m + 1, j, h => by
    have ih := blksPre_in N n f m j
    unfold blksPre at h ⊢
    split at h
    · rename_i hq
      rw [if_pos hq]
      rw [List.length_append, List.length_cons, List.length_nil] at h
      rcases Nat.lt_or_ge j (blksPre N n f m).length with q | q
      · rw [getD_snoc1 _ _ q]; exact ih q
      · rw [getD_snoc2 _ _ (by omega)]; exact blkPre_len f m n
    · rename_i hq
      rw [if_neg hq]; exact ih h
theorem BlkR.bound {l : List Tab} {t : Int} {ls : List (List Int)} (h : BlkR l t ls) : ls.length ≤ 24 ∧ ∀ j, j < ls.length → (ls.getD j default).length ≤ 24 := by
  rcases h with ⟨i, n, rfl, h1, h2, h3, rfl⟩ | ⟨h1, rfl⟩
  · have := tsize_le (tb l i)
    have b1 := blksPre_len (N := nearP (tb l i)) (n := n) (sumT l i) n
    exact ⟨by omega, fun j hj => by have := blksPre_in _ _ _ _ _ hj; omega⟩
  · exact ⟨by simp, fun j hj => by simp at hj⟩
theorem nearP_symm (t : Tab) (x y : Int) (h : nearP t x y) : nearP t y x := by
  rcases h with h | h
  · exact .inl ((besideP_symm t x y).1 h)
  · exact .inr ((acrossP_symm t x y).1 h)

theorem blocks_ok {h0 : AH} (w : WfH h0) (v : Value) (l : List Tab) (H : HallR h0 v l) (t : Int) : Fn Tryz.prog Xh 46 [v, .int .i64 t] h0 (fun r h' => ∃ ls, BlkR l t ls ∧ RLL h' r ls ∧ Hs h0 h' []) := by
  have S := Hs.start w
  have hl := H.len
  have hr := H.rd
  by_cases ht0 : t < 0
  · refine Fn_K rfl Tryz.func46 rfl rfl ?_
    all_goals (repeat' (first | refine K_seq ?_ | refine k_cond rfl ?_ | refine K_skip ?_ | refine K_exit ?_ | refine k_block ?_ | refine K_scope ?_ | (refine K_region (id := 0) ?_; refine mv ?_; refine KO_nil ?_) | (refine K_region (id := 1) ?_; refine mv ?_; (first | refine cT ?_ | refine cF ?_ | (refine cS ?_ ?_ <;> intro hc)) <;> (refine mv ?_; (first | refine off ?_ | refine mv ?_); (first | refine off ?_ | refine mv ?_); (first | refine off ?_ | (first | refine lnB S ?_ | refine lnS S rfl rfl ?_)); (first | refine off ?_ | (first | refine cT ?_ | refine cF ?_ | (refine cS ?_ ?_ <;> intro hc))) <;> (refine vl ?_; refine mv ?_; (first | refine off ?_ | refine mv ?_); (first | (refine off ?_; (first | refine off ?_ | refine vl ?_); refine vl ?_; refine KO_nil ?_) | skip)))) | (refine K_region (id := 2) ?_; refine mv ?_; refine KO_nil ?_) | (refine K_region (id := 3) ?_; refine mv ?_; refine mv ?_)))
    all_goals (try omega)
    refine K_ret ⟨_, rfl, ?_⟩
    exact ⟨[], .inr ⟨by omega, rfl⟩, .nil, S⟩
  obtain ⟨i, rfl⟩ := Int.eq_ofNat_of_zero_le (show 0 ≤ t by omega)
  refine Fn_K rfl Tryz.func46 rfl rfl ?_
  all_goals (repeat' (first | refine K_seq ?_ | refine k_cond rfl ?_ | refine K_skip ?_ | refine K_exit ?_ | refine k_block ?_ | refine K_scope ?_ | (refine K_region (id := 0) ?_; refine mv ?_; refine KO_nil ?_) | (refine K_region (id := 1) ?_; refine mv ?_; (first | refine cT ?_ | refine cF ?_ | (refine cS ?_ ?_ <;> intro hc)) <;> (refine mv ?_; (first | refine off ?_ | refine mv ?_); (first | refine off ?_ | refine mv ?_); (first | refine off ?_ | (first | refine lnB S ?_ | refine lnS S rfl rfl ?_)); (first | refine off ?_ | (first | refine cT ?_ | refine cF ?_ | (refine cS ?_ ?_ <;> intro hc))) <;> (refine vl ?_; refine mv ?_; (first | refine off ?_ | refine mv ?_); (first | (refine off ?_; (first | refine off ?_ | refine vl ?_); refine vl ?_; refine KO_nil ?_) | skip)))) | (refine K_region (id := 2) ?_; refine mv ?_; refine KO_nil ?_) | (refine K_region (id := 3) ?_; refine mv ?_; refine mv ?_)))
  all_goals (try omega)
  · refine K_ret ⟨_, rfl, ?_⟩
    exact ⟨[], .inr ⟨by omega, rfl⟩, .nil, S⟩
  · (refine KO_fn rfl rfl rfl rfl rfl ((valid_ok S.wf v l H).mono ?_); rintro _ h ⟨⟨rfl, hq⟩ | ⟨rfl, hq⟩, x⟩) <;> (replace S := S.join0 x; clear x; (first | refine off ?_ | refine vl ?_); refine vl ?_; refine KO_nil ?_)
    all_goals (repeat' (first | refine K_seq ?_ | refine k_cond rfl ?_ | refine K_skip ?_ | refine K_exit ?_ | refine k_block ?_ | refine K_scope ?_ | (refine K_region (id := 2) ?_; refine mv ?_; refine KO_nil ?_) | (refine K_region (id := 3) ?_; refine mv ?_; refine mv ?_)))
    · have hi : i < l.length := by omega
      have hts := hq.tabS hi
      have t1 := tsize_le (tb l i)
      have t2 := hts.pos
      have b1 := sumT_le l i
      obtain ⟨n, hn⟩ := Int.eq_ofNat_of_zero_le t1.1
      (try simp only [Int.toNat_natCast] at *)
      obtain ⟨f, hf⟩ : ∃ f, f = sumT l i := ⟨_, rfl⟩
      have ef : firstV l i = f := by unfold firstV; rw [if_pos ⟨by omega, by omega, hq⟩, Int.toNat_natCast, hf]
      rw [← hf] at b1
      (refine KO_fn rfl rfl rfl rfl rfl ((first_ok S.wf v l (H.ext w S.ext) i).mono ?_); rintro _ h ⟨rfl, x⟩) <;> (replace S := S.join0 x; clear x; rw [ef]; refine mv ?_; refine KO_nil ?_)
      all_goals (repeat' (first | refine K_seq ?_ | refine k_cond rfl ?_ | refine K_skip ?_ | refine K_exit ?_ | refine k_block ?_ | refine K_scope ?_ | (refine K_region (id := 4) ?_; refine mv ?_; refine mv ?_; (first | refine ixB S ?_ | refine ixS2 S rfl rfl ?_); (first | refine lB S rfl rfl ?_ | refine lES2 S rfl rfl ?_ | refine lEB S ?_ | refine lH S ?_))))
      (try simp only [Int.toNat_natCast] at *)
      (refine KO_fn rfl rfl rfl rfl rfl ((size_ok S.wf (tb l i)).mono ?_); rintro _ h ⟨rfl, x⟩) <;> (replace S := S.join0 x; clear x; rw [hn])
      refine m_make (z := 1) (by_ := 1) (enc := eB) (y0 := false) S rfl rfl rfl rfl rfl rfl rfl rfl rfl (by intro _; rfl) (by first | omega | grind) rfl rfl ?_; clear S; intro v h S; refine mv ?_; refine KO_nil ?_
      simp only [Int.toNat_natCast] at S
      obtain ⟨vd, hnm⟩ : ∃ x, x = v := ⟨_, rfl⟩; subst hnm
      obtain ⟨N, hN⟩ : ∃ N, N = nearP (tb l i) := ⟨_, rfl⟩
      have hsym : ∀ x y, N x y → N y x := by rw [hN]; exact nearP_symm _
      all_goals (repeat' (first | refine K_seq ?_ | refine k_cond rfl ?_ | refine K_skip ?_ | refine K_exit ?_ | refine k_block ?_ | refine K_scope ?_ | (refine K_region (id := 5) ?_; refine mv ?_; refine KO_nil ?_) | (refine K_region (id := 6) ?_; refine mv ?_; (first | refine lnB S ?_ | refine lnS S rfl rfl ?_); refine mv ?_; refine KO_nil ?_)))
      refine k_loop (σ := Nat × List Bool × List Value × Value) (fun (k, dn, vs, vo) h' => Hs h0 h' [.sl vd 4 1 eB dn, .sl vo 23 1 eV vs, .any (LLs vs (blksPre N n f k))] ∧ k ≤ n ∧ dn.length = n ∧ vs.length ≤ k ∧ ∀ m, m < n → (dn.getD m default = true ↔ ∃ k', k' < k ∧ Rch N n k' m)) (fun (k, dn, vs, vo) => n - k) (fun (k, dn, vs, vo) => [(0, v), (1, .int .i64 i), (5, .int .i64 f), (6, vd), (7, vo), (35, .int .i64 n), (36, .int .i64 k)]) (0, List.replicate n false, [], .slice none 0 0) (by repeat (first | exact Ks.le_nil _ | refine Ks.le_cons rfl ?_ | refine Ks.le_int ?_)) ?_ ?_
      · refine ⟨?_, Nat.zero_le _, by simp, by simp, fun m hm => ⟨fun q => ?_, fun ⟨k', q, _⟩ => by omega⟩⟩
        · have S2 := (S.anyS (p := LLs [] (blksPre N n f 0)) fun h' => LLs.nil h' _).nilS (α := Value) (e := 23) (z := 1) (enc := eV)
          exact S2.front (.there (.there .here))
        · exfalso
          simp [List.getD_eq_getElem?_getD, List.getElem?_replicate, hm] at q
      clear S
      rintro ⟨k, dn, vs, vo⟩ h ⟨S, h1, h2, h3, h4⟩
      all_goals (repeat' (first | refine K_seq ?_ | refine k_cond rfl ?_ | refine K_skip ?_ | refine K_exit ?_ | refine k_block ?_ | refine K_scope ?_ | (refine K_region (id := 7) ?_; (first | refine cT ?_ | refine cF ?_ | (refine cS ?_ ?_ <;> intro hc)) <;> (refine KO_nil ?_)) | (refine K_region (id := 8) ?_; refine mv ?_; refine mv ?_; refine KO_nil ?_)))
      · have hk : k < n := by omega
        have h4k := h4 k hk
        (try refine K_seq ?_); refine K_region (id := 9) ?_; refine mv ?_; refine mv ?_; (first | refine ixB S ?_ | refine ixS2 S rfl rfl ?_); (first | refine lB S rfl rfl ?_ | refine lES2 S rfl rfl ?_ | refine lEB S ?_ | refine lH S ?_); refine KO_nil ?_
        refine K_cond2 rfl ?_ ?_ <;> intro hb <;> simp only [Int.toNat_natCast] at hb
        rotate_left
        · rw [hb] at h4k
          have hleast : leastP N n k := fun m hm hr => Nat.le_of_not_lt fun q => by
            have := h4k.2 ⟨m, q, hr.symm hsym hk hm⟩
            cases this
          all_goals (repeat' (first | refine K_seq ?_ | refine k_cond rfl ?_ | refine K_skip ?_ | refine K_exit ?_ | refine k_block ?_ | refine K_scope ?_ | (refine K_region (id := 10) ?_; refine mv ?_; refine KO_nil ?_) | (refine K_region (id := 11) ?_; refine mv ?_; refine mv ?_; (first | refine ixB S ?_ | refine ixS2 S rfl rfl ?_); (first | refine lB S rfl rfl ?_ | refine lES2 S rfl rfl ?_ | refine lEB S ?_ | refine lH S ?_); refine mv ?_)))
          (refine KO_fn rfl rfl rfl rfl rfl ((steps_ok S.wf (tb l i) k n hts.b hn (by omega) hk).mono ?_); rintro vdi h ⟨dl, hdl, x⟩) <;> (replace S := S.join1 x; clear x; (first | refine lnB S ?_ | refine lnS S rfl rfl ?_); refine mv ?_; refine KO_nil ?_)
          rw [← hN] at hdl
          have hdlen := hdl.1
          all_goals (repeat' (first | refine K_seq ?_ | refine k_cond rfl ?_ | refine K_skip ?_ | refine K_exit ?_ | refine k_block ?_ | refine K_scope ?_ | (refine K_region (id := 7) ?_; (first | refine cT ?_ | refine cF ?_ | (refine cS ?_ ?_ <;> intro hc)) <;> (refine KO_nil ?_)) | (refine K_region (id := 8) ?_; refine mv ?_; refine mv ?_; refine KO_nil ?_) | (refine K_region (id := 9) ?_; refine mv ?_; refine mv ?_; (first | refine ixB S ?_ | refine ixS2 S rfl rfl ?_); (first | refine lB S rfl rfl ?_ | refine lES2 S rfl rfl ?_ | refine lEB S ?_ | refine lH S ?_); refine KO_nil ?_) | (refine K_region (id := 10) ?_; refine mv ?_; refine KO_nil ?_) | (refine K_region (id := 11) ?_; refine mv ?_; refine mv ?_; (first | refine ixB S ?_ | refine ixS2 S rfl rfl ?_); (first | refine lB S rfl rfl ?_ | refine lES2 S rfl rfl ?_ | refine lEB S ?_ | refine lH S ?_); refine mv ?_) | (refine K_region (id := 19) ?_; (first | refine ad ?_ | refine vl ?_); refine mv ?_; refine KO_nil ?_) | (refine K_region (id := 20) ?_; refine mv ?_; refine mv ?_; refine KO_nil ?_)))
          refine k_loop (σ := Nat × List Bool × Value) (fun (m, d2, vb) h' => Hs h0 h' [.sl vb 3 1 eI (blkPre N n f k m), .sl vdi 3 1 eI dl, .sl vd 4 1 eB d2, .sl vo 23 1 eV vs, .any (LLs vs (blksPre N n f k))] ∧ m ≤ n ∧ d2.length = n ∧ ∀ y, y < n → (d2.getD y default = true ↔ dn.getD y default = true ∨ (y < m ∧ Rch N n k y))) (fun (m, d2, vb) => n - m) (fun (m, d2, vb) => [(0, v), (1, .int .i64 i), (5, .int .i64 f), (6, vd), (7, vo), (8, .int .i64 k), (9, vb), (35, .int .i64 n), (36, .int .i64 k), (48, vdi), (49, .int .i64 n), (50, .int .i64 m)]) (0, dn, .slice none 0 0) (by repeat (first | exact Ks.le_nil _ | refine Ks.le_cons rfl ?_ | refine Ks.le_int ?_)) ?_ ?_
          · exact ⟨S.nilS, Nat.zero_le _, h2, fun y hy => ⟨.inl, fun q => q.elim id fun q => by omega⟩⟩
          clear S
          rintro ⟨m, d2, vb⟩ h ⟨S, g1, g2, g3⟩
          obtain ⟨sb, rfl⟩ := (Rd.of_sl S .here).isSl
          have hbl := blkPre_len (N := N) (n := n) f k m
          all_goals (repeat' (first | refine K_seq ?_ | refine k_cond rfl ?_ | refine K_skip ?_ | refine K_exit ?_ | refine k_block ?_ | refine K_scope ?_ | (refine K_region (id := 12) ?_; (first | refine cT ?_ | refine cF ?_ | (refine cS ?_ ?_ <;> intro hc)) <;> (refine KO_nil ?_)) | (refine K_region (id := 13) ?_; refine mv ?_; (first | refine ixB S ?_ | refine ixS2 S rfl rfl ?_); (first | refine lB S rfl rfl ?_ | refine lES2 S rfl rfl ?_ | refine lEB S ?_ | refine lH S ?_); refine mv ?_; refine mv ?_; refine KO_nil ?_) | (refine K_region (id := 14) ?_; refine mv ?_; (first | refine cT ?_ | refine cF ?_ | (refine cS ?_ ?_ <;> intro hc)) <;> (refine KO_nil ?_)) | (refine K_region (id := 15) ?_; refine mv ?_; refine mv ?_; (first | refine ixB S ?_ | refine ixS2 S rfl rfl ?_); (first | (refine sB S rfl rfl ?_; clear S; intro h S) | (refine sE2 S rfl rfl ?_; clear S; intro h S)); refine KO_nil ?_) | (refine K_region (id := 16) ?_; refine mv ?_; refine mv ?_; refine mv ?_; (first | refine ad ?_ | refine vl ?_); (refine one 1 S ?_; clear S; intro u h S)) | (refine K_region (id := 17) ?_; (first | refine ad ?_ | refine vl ?_); refine mv ?_; refine KO_nil ?_) | (refine K_region (id := 18) ?_; refine mv ?_; refine mv ?_; (refine one 1 S ?_; clear S; intro u h S))))
          · simp only [Int.toNat_natCast] at hc S
            have hm : m < n := by omega
            have hrc := (hdl.rch hm).1 (by assumption)
            refine app  S rfl rfl ?_; clear S; intro v h S; refine mv ?_; refine KO_nil ?_
            all_goals (repeat' (first | refine K_seq ?_ | refine k_cond rfl ?_ | refine K_skip ?_ | refine K_exit ?_ | refine k_block ?_ | refine K_scope ?_ | (refine K_region (id := 17) ?_; (first | refine ad ?_ | refine vl ?_); refine mv ?_; refine KO_nil ?_)))
            refine ⟨(m + 1, d2.set m true, v), ?_, ?_, (by repeat (first | exact Ks.le_nil _ | refine Ks.le_cons rfl ?_ | refine Ks.le_int ?_))⟩
            · show n - (m + 1) < n - m; omega
            · refine ⟨?_, by omega, by simpa using g2, fun y hy => ?_⟩
              · have e : blkPre N n f k (m + 1) = blkPre N n f k m ++ [f + (m : Int)] := by rw [blkPre, if_pos hrc]
                rw [e]; exact S
              · rw [getD_set _ _ (by omega)]
                split
                · rename_i e; subst e; exact ⟨fun _ => .inr ⟨by omega, hrc⟩, fun _ => rfl⟩
                · rw [g3 y hy]
                  exact ⟨fun q => q.imp id fun q => ⟨by omega, q.2⟩, fun q => q.imp id fun q => ⟨by omega, q.2⟩⟩
          · (try simp only [Int.toNat_natCast] at hc)
            have hm : m < n := by omega
            have hrc : ¬ Rch N n k m := fun q => hc ((hdl.rch hm).2 q)
            refine ⟨(m + 1, d2, sb.val), ?_, ?_, (by repeat (first | exact Ks.le_nil _ | refine Ks.le_cons rfl ?_ | refine Ks.le_int ?_))⟩
            · show n - (m + 1) < n - m; omega
            · refine ⟨?_, by omega, g2, fun y hy => ?_⟩
              · have e : blkPre N n f k (m + 1) = blkPre N n f k m := by rw [blkPre, if_neg hrc]
                rw [e]; exact S
              · rw [g3 y hy]
                refine ⟨fun q => q.imp id fun q => ⟨by omega, q.2⟩, fun q => q.imp id fun q => ⟨?_, q.2⟩⟩
                rcases Nat.lt_or_ge y m with a | a
                · exact a
                · obtain rfl : y = m := by omega
                  exact absurd q.2 hrc
          · obtain rfl : m = n := by omega
            refine app  S rfl rfl ?_; clear S; intro v h S; refine mv ?_; refine KO_nil ?_
            all_goals (repeat' (first | refine K_seq ?_ | refine k_cond rfl ?_ | refine K_skip ?_ | refine K_exit ?_ | refine k_block ?_ | refine K_scope ?_ | (refine K_region (id := 19) ?_; (first | refine ad ?_ | refine vl ?_); refine mv ?_; refine KO_nil ?_)))
            refine ⟨(k + 1, d2, vs ++ [sb.val], v), ?_, ?_, (by repeat (first | exact Ks.le_nil _ | refine Ks.le_cons rfl ?_ | refine Ks.le_int ?_))⟩
            · show m - (k + 1) < m - k; omega
            · refine ⟨?_, by omega, g2, by simp; omega, fun y hy => ?_⟩
              · have e : blksPre N m f (k + 1) = blksPre N m f k ++ [blkPre N m f k m] := by rw [blksPre, if_pos hleast]
                rw [e]
                have S := ((S.del (.there (.there .here))).front (.there (.there (.there .here)))).front (.there (.there .here))
                exact ((S.pushLL).front (.there .here)).front (.there (.there .here))
              · rw [g3 y hy, h4 y hy]
                constructor
                · rintro (⟨k', q1, q2⟩ | ⟨q1, q2⟩)
                  · exact ⟨k', by omega, q2⟩
                  · exact ⟨k, by omega, q2⟩
                · rintro ⟨k', q1, q2⟩
                  rcases Nat.lt_or_ge k' k with a | a
                  · exact .inl ⟨k', a, q2⟩
                  · obtain rfl : k' = k := by omega
                    exact .inr ⟨hy, q2⟩
        · rw [hb] at h4k
          obtain ⟨k0, q1, q2⟩ := h4k.1 rfl
          have hnl : ¬ leastP N n k := fun q => by have := q k0 (by omega) (q2.symm hsym (by omega) hk); omega
          all_goals (repeat' (first | refine K_seq ?_ | refine k_cond rfl ?_ | refine K_skip ?_ | refine K_exit ?_ | refine k_block ?_ | refine K_scope ?_ | (refine K_region (id := 19) ?_; (first | refine ad ?_ | refine vl ?_); refine mv ?_; refine KO_nil ?_)))
          refine ⟨(k + 1, dn, vs, vo), ?_, ?_, (by repeat (first | exact Ks.le_nil _ | refine Ks.le_cons rfl ?_ | refine Ks.le_int ?_))⟩
          · show n - (k + 1) < n - k; omega
          · refine ⟨?_, by omega, h2, by omega, fun y hy => ?_⟩
            · have e : blksPre N n f (k + 1) = blksPre N n f k := by rw [blksPre, if_neg hnl]
              rw [e]; exact S
            · rw [h4 y hy]
              constructor
              · rintro ⟨k', a, b⟩; exact ⟨k', by omega, b⟩
              · rintro ⟨k', a, b⟩
                rcases Nat.lt_or_ge k' k with a2 | a2
                · exact ⟨k', a2, b⟩
                · obtain rfl : k' = k := by omega
                  exact ⟨k0, q1, q2.trans b⟩
      · obtain rfl : k = n := by omega
        all_goals (repeat' (first | refine K_seq ?_ | refine k_cond rfl ?_ | refine K_skip ?_ | refine K_exit ?_ | refine k_block ?_ | refine K_scope ?_ | (refine K_region (id := 20) ?_; refine mv ?_; refine mv ?_; refine KO_nil ?_)))
        refine K_ret ⟨_, rfl, ?_⟩
        exact ⟨_, .inl ⟨i, k, rfl, hi, hq, hn, rfl⟩, by rw [← hf, ← hN]; exact RLL.of S (.there .here) (.there (.there .here)), S.drop⟩
    · refine K_ret ⟨_, rfl, ?_⟩
      exact ⟨[], .inr ⟨fun q => hq q.2.2, rfl⟩, .nil, S⟩

theorem refBlocks_ok {h0 : AH} (w : WfH h0) (v : Value) (l : List Tab) (H : HallR h0 v l) (hq : ValidL l) (i : Nat) (hi : i < l.length) : Fn Tryz.prog Xh 79 [v, .int .i64 i] h0 (fun r h' => ∃ ls, BlkR l i ls ∧ RLL h' r ls ∧ Hs h0 h' []) := by
  have S := Hs.start w
  have hl := H.len
  have hr := H.rd
  have hts := hq.tabS hi
  have t1 := tsize_le (tb l i)
  have t2 := hts.pos
  have b1 := sumT_le l i
  obtain ⟨n, hn⟩ := Int.eq_ofNat_of_zero_le t1.1
  obtain ⟨f, hf⟩ : ∃ f, f = sumT l i := ⟨_, rfl⟩
  rw [← hf] at b1
  obtain ⟨N, hN⟩ : ∃ N, N = nearP (tb l i) := ⟨_, rfl⟩
  refine Fn_K rfl Tryz.func79 rfl rfl ?_
  all_goals (repeat' (first | refine K_seq ?_ | refine k_cond rfl ?_ | refine K_skip ?_ | refine K_exit ?_ | refine k_block ?_ | refine K_scope ?_ | (refine K_region (id := 0) ?_; refine mv ?_; refine KO_nil ?_) | (refine K_region (id := 1) ?_; refine mv ?_; refine KO_nil ?_) | (refine K_region (id := 2) ?_; refine mv ?_; refine mv ?_; (first | refine ixB S ?_ | refine ixS2 S rfl rfl ?_); (first | refine lB S rfl rfl ?_ | refine lES2 S rfl rfl ?_ | refine lEB S ?_ | refine lH S ?_))))
  (try simp only [Int.toNat_natCast] at *)
  (refine KO_fn rfl rfl rfl rfl rfl ((refSize_ok S.wf (tb l i)).mono ?_); rintro _ h ⟨rfl, x⟩) <;> (replace S := S.join0 x; clear x; refine mv ?_; refine KO_nil ?_)
  rw [hn]
  all_goals (repeat' (first | refine K_seq ?_ | refine k_cond rfl ?_ | refine K_skip ?_ | refine K_exit ?_ | refine k_block ?_ | refine K_scope ?_ | (refine K_region (id := 3) ?_; refine mv ?_; refine KO_nil ?_)))
  refine k_loop (σ := Nat × List Value × Value) (fun (k, vs, vo) h' => Hs h0 h' [.sl vo 23 1 eV vs, .any (LLs vs (blksPre N n f k))] ∧ k ≤ n ∧ vs.length ≤ k) (fun (k, vs, vo) => n - k) (fun (k, vs, vo) => [(0, v), (1, .int .i64 i), (5, vo), (6, .int .i64 n), (7, .int .i64 k)]) (0, [], .slice none 0 0) (by repeat (first | exact Ks.le_nil _ | refine Ks.le_cons rfl ?_ | refine Ks.le_int ?_)) ?_ ?_
  · exact ⟨(S.anyS fun h' => LLs.nil h' _).nilS, Nat.zero_le _, by simp⟩
  clear S
  rintro ⟨k, vs, vo⟩ h ⟨S, h1, h2⟩
  all_goals (repeat' (first | refine K_seq ?_ | refine k_cond rfl ?_ | refine K_skip ?_ | refine K_exit ?_ | refine k_block ?_ | refine K_scope ?_ | (refine K_region (id := 4) ?_; refine mv ?_; refine mv ?_; (first | refine cT ?_ | refine cF ?_ | (refine cS ?_ ?_ <;> intro hc)) <;> (refine KO_nil ?_)) | (refine K_region (id := 6) ?_; refine mv ?_; refine mv ?_; (first | refine ixB S ?_ | refine ixS2 S rfl rfl ?_); (first | refine lB S rfl rfl ?_ | refine lES2 S rfl rfl ?_ | refine lEB S ?_ | refine lH S ?_); refine mv ?_) | (refine K_region (id := 17) ?_; refine mv ?_; refine mv ?_; refine KO_nil ?_)))
  · (try simp only [Int.toNat_natCast] at *)
    have hk : k < n := by omega
    (refine KO_fn rfl rfl rfl rfl rfl ((refDist_ok S.wf (tb l i) k n hts hn hk).mono ?_); rintro vdi h ⟨dl, hdl, x⟩) <;> (replace S := S.join1 x; clear x; refine mv ?_; refine KO_nil ?_)
    rw [← hN] at hdl
    have hdlen := hdl.1
    all_goals (repeat' (first | refine K_seq ?_ | refine k_cond rfl ?_ | refine K_skip ?_ | refine K_exit ?_ | refine k_block ?_ | refine K_scope ?_ | (refine K_region (id := 7) ?_; refine mv ?_; refine KO_nil ?_) | (refine K_region (id := 8) ?_; refine mv ?_; refine KO_nil ?_) | (refine K_region (id := 9) ?_; refine mv ?_; refine KO_nil ?_)))
    refine k_loop (σ := Nat × Bool × Value) (fun (m, b, vb) h' => Hs h0 h' [.sl vb 3 1 eI (blkPre N n f k m), .sl vdi 3 1 eI dl, .sl vo 23 1 eV vs, .any (LLs vs (blksPre N n f k))] ∧ m ≤ n ∧ (b = true ↔ ∀ y, y < m → Rch N n k y → k ≤ y)) (fun (m, b, vb) => n - m) (fun (m, b, vb) => [(0, v), (1, .int .i64 i), (5, vo), (6, .int .i64 n), (7, .int .i64 k), (8, vdi), (9, vb), (10, .bool b), (11, .int .i64 m)]) (0, true, .slice none 0 0) (by repeat (first | exact Ks.le_nil _ | refine Ks.le_cons rfl ?_ | refine Ks.le_int ?_)) ?_ ?_
    · exact ⟨S.nilS, Nat.zero_le _, ⟨fun _ y hy => by omega, fun _ => rfl⟩⟩
    clear S
    rintro ⟨m, b, vb⟩ h ⟨S, g1, g2⟩
    obtain ⟨sb, rfl⟩ := (Rd.of_sl S .here).isSl
    have hbl := blkPre_len (N := N) (n := n) f k m
    have step : m < n → Rch N n k m → blkPre N n f k (m + 1) = blkPre N n f k m ++ [f + (m : Int)] := fun _ q => by rw [blkPre, if_pos q]
    have skip_ : ¬ Rch N n k m → blkPre N n f k (m + 1) = blkPre N n f k m := fun q => by rw [blkPre, if_neg q]
    have end_ : ∀ y, y < m + 1 → y < m ∨ y = m := fun y hy => by omega
    cases b
    · all_goals (repeat' (first | refine K_seq ?_ | refine k_cond rfl ?_ | refine K_skip ?_ | refine K_exit ?_ | refine k_block ?_ | refine K_scope ?_ | (refine K_region (id := 5) ?_; refine mv ?_; (first | refine ad ?_ | refine vl ?_); refine mv ?_; refine KO_nil ?_) | (refine K_region (id := 10) ?_; refine mv ?_; refine mv ?_; (first | refine cT ?_ | refine cF ?_ | (refine cS ?_ ?_ <;> intro hc)) <;> (refine KO_nil ?_)) | (refine K_region (id := 11) ?_; refine mv ?_; (first | refine ad ?_ | refine vl ?_); refine mv ?_; refine KO_nil ?_) | (refine K_region (id := 12) ?_; refine mv ?_; refine mv ?_; (first | refine ixB S ?_ | refine ixS2 S rfl rfl ?_); (first | refine lB S rfl rfl ?_ | refine lES2 S rfl rfl ?_ | refine lEB S ?_ | refine lH S ?_); (first | refine cT ?_ | refine cF ?_ | (refine cS ?_ ?_ <;> intro hc)) <;> (refine KO_nil ?_)) | (refine K_region (id := 13) ?_; refine mv ?_; refine mv ?_; (first | refine off ?_ | refine mv ?_); (first | refine off ?_ | refine mv ?_); (first | refine off ?_ | (first | refine cT ?_ | refine cF ?_ | (refine cS ?_ ?_ <;> intro hc))) <;> (refine vl ?_; refine mv ?_; refine KO_nil ?_)) | (refine K_region (id := 14) ?_; refine mv ?_; refine mv ?_; refine mv ?_; skip) | (refine K_region (id := 15) ?_; refine mv ?_; refine KO_nil ?_) | (refine K_region (id := 16) ?_; refine mv ?_; refine mv ?_; (refine one 1 S ?_; clear S; intro u h S))))
      · (try simp only [Int.toNat_natCast] at hc)
        have hm : m < n := by omega
        have hrc := (hdl.rch hm).1 (by assumption)
        (refine KO_fn rfl rfl rfl rfl rfl ((refFirst_ok S.wf v l (H.ext w S.ext) i (by omega)).mono ?_); rintro _ h ⟨rfl, x⟩) <;> (replace S := S.join0 x; clear x; rw [← hf]; refine mv ?_; (first | refine ad ?_ | refine vl ?_); (refine one 1 S ?_; clear S; intro u h S))
        refine app  S rfl rfl ?_; clear S; intro v h S; refine mv ?_; refine KO_nil ?_
        all_goals (repeat' (first | refine K_seq ?_ | refine k_cond rfl ?_ | refine K_skip ?_ | refine K_exit ?_ | refine k_block ?_ | refine K_scope ?_ | (refine K_region (id := 11) ?_; refine mv ?_; (first | refine ad ?_ | refine vl ?_); refine mv ?_; refine KO_nil ?_)))
        refine ⟨(m + 1, false, v), ?_, ?_, (by repeat (first | exact Ks.le_nil _ | refine Ks.le_cons rfl ?_ | refine Ks.le_int ?_))⟩
        · show n - (m + 1) < n - m; omega
        · refine ⟨by rw [step hm hrc]; exact S, by omega, ⟨fun q => (by cases q), fun q => ?_⟩⟩
          have := g2.2 fun y hy hr => q y (by omega) hr
          cases this
      · (try simp only [Int.toNat_natCast] at hc)
        have hm : m < n := by omega
        have hrc : ¬ Rch N n k m := fun q => hc ((hdl.rch hm).2 q)
        refine ⟨(m + 1, false, sb.val), ?_, ?_, (by repeat (first | exact Ks.le_nil _ | refine Ks.le_cons rfl ?_ | refine Ks.le_int ?_))⟩
        · show n - (m + 1) < n - m; omega
        · refine ⟨by rw [skip_ hrc]; exact S, by omega, ⟨fun q => (by cases q), fun q => ?_⟩⟩
          have := g2.2 fun y hy hr => q y (by omega) hr
          cases this
      · obtain rfl : m = n := by omega
        have hnl : ¬ leastP N m k := fun q => by
          have := g2.2 q
          cases this
        refine ⟨(k + 1, vs, vo), ?_, ?_, (by repeat (first | exact Ks.le_nil _ | refine Ks.le_cons rfl ?_ | refine Ks.le_int ?_))⟩
        · show m - (k + 1) < m - k; omega
        · refine ⟨?_, by omega, by (try dsimp only); omega⟩
          have e : blksPre N m f (k + 1) = blksPre N m f k := by rw [blksPre, if_neg hnl]
          rw [e]; exact (S.del .here).del .here
    · have g2' := g2.1 rfl
      skip
      all_goals (repeat' (first | refine K_seq ?_ | refine k_cond rfl ?_ | refine K_skip ?_ | refine K_exit ?_ | refine k_block ?_ | refine K_scope ?_ | (refine K_region (id := 5) ?_; refine mv ?_; (first | refine ad ?_ | refine vl ?_); refine mv ?_; refine KO_nil ?_) | (refine K_region (id := 10) ?_; refine mv ?_; refine mv ?_; (first | refine cT ?_ | refine cF ?_ | (refine cS ?_ ?_ <;> intro hc)) <;> (refine KO_nil ?_)) | (refine K_region (id := 11) ?_; refine mv ?_; (first | refine ad ?_ | refine vl ?_); refine mv ?_; refine KO_nil ?_) | (refine K_region (id := 12) ?_; refine mv ?_; refine mv ?_; (first | refine ixB S ?_ | refine ixS2 S rfl rfl ?_); (first | refine lB S rfl rfl ?_ | refine lES2 S rfl rfl ?_ | refine lEB S ?_ | refine lH S ?_); (first | refine cT ?_ | refine cF ?_ | (refine cS ?_ ?_ <;> intro hc)) <;> (refine KO_nil ?_)) | (refine K_region (id := 13) ?_; refine mv ?_; refine mv ?_; (first | refine off ?_ | refine mv ?_); (first | refine off ?_ | refine mv ?_); (first | refine off ?_ | (first | refine cT ?_ | refine cF ?_ | (refine cS ?_ ?_ <;> intro hc))) <;> (refine vl ?_; refine mv ?_; refine KO_nil ?_)) | (refine K_region (id := 14) ?_; refine mv ?_; refine mv ?_; refine mv ?_; skip) | (refine K_region (id := 15) ?_; refine mv ?_; refine KO_nil ?_) | (refine K_region (id := 16) ?_; refine mv ?_; refine mv ?_; (refine one 1 S ?_; clear S; intro u h S))))
      · (try simp only [Int.toNat_natCast] at hc)
        have hm : m < n := by omega
        have hrc := (hdl.rch hm).1 (by assumption)
        (refine KO_fn rfl rfl rfl rfl rfl ((refFirst_ok S.wf v l (H.ext w S.ext) i (by omega)).mono ?_); rintro _ h ⟨rfl, x⟩) <;> (replace S := S.join0 x; clear x; rw [← hf]; refine mv ?_; (first | refine ad ?_ | refine vl ?_); (refine one 1 S ?_; clear S; intro u h S))
        refine app  S rfl rfl ?_; clear S; intro v h S; refine mv ?_; refine KO_nil ?_
        all_goals (repeat' (first | refine K_seq ?_ | refine k_cond rfl ?_ | refine K_skip ?_ | refine K_exit ?_ | refine k_block ?_ | refine K_scope ?_ | (refine K_region (id := 11) ?_; refine mv ?_; (first | refine ad ?_ | refine vl ?_); refine mv ?_; refine KO_nil ?_)))
        refine ⟨(m + 1, true, v), ?_, ?_, (by repeat (first | exact Ks.le_nil _ | refine Ks.le_cons rfl ?_ | refine Ks.le_int ?_))⟩
        · show n - (m + 1) < n - m; omega
        · refine ⟨by rw [step hm hrc]; exact S, by omega, ⟨fun _ y hy hr => ?_, fun _ => rfl⟩⟩
          rcases end_ y hy with q | rfl
          · exact g2' y q hr
          · omega
      · (try simp only [Int.toNat_natCast] at hc)
        have hm : m < n := by omega
        have hrc := (hdl.rch hm).1 (by assumption)
        (refine KO_fn rfl rfl rfl rfl rfl ((refFirst_ok S.wf v l (H.ext w S.ext) i (by omega)).mono ?_); rintro _ h ⟨rfl, x⟩) <;> (replace S := S.join0 x; clear x; rw [← hf]; refine mv ?_; (first | refine ad ?_ | refine vl ?_); (refine one 1 S ?_; clear S; intro u h S))
        refine app  S rfl rfl ?_; clear S; intro v h S; refine mv ?_; refine KO_nil ?_
        all_goals (repeat' (first | refine K_seq ?_ | refine k_cond rfl ?_ | refine K_skip ?_ | refine K_exit ?_ | refine k_block ?_ | refine K_scope ?_ | (refine K_region (id := 11) ?_; refine mv ?_; (first | refine ad ?_ | refine vl ?_); refine mv ?_; refine KO_nil ?_)))
        refine ⟨(m + 1, false, v), ?_, ?_, (by repeat (first | exact Ks.le_nil _ | refine Ks.le_cons rfl ?_ | refine Ks.le_int ?_))⟩
        · show n - (m + 1) < n - m; omega
        · refine ⟨by rw [step hm hrc]; exact S, by omega, ⟨fun q => (by cases q), fun q => ?_⟩⟩
          have := q m (by omega) hrc
          omega
      · (try simp only [Int.toNat_natCast] at hc)
        have hm : m < n := by omega
        have hrc : ¬ Rch N n k m := fun q => hc ((hdl.rch hm).2 q)
        refine ⟨(m + 1, true, sb.val), ?_, ?_, (by repeat (first | exact Ks.le_nil _ | refine Ks.le_cons rfl ?_ | refine Ks.le_int ?_))⟩
        · show n - (m + 1) < n - m; omega
        · refine ⟨by rw [skip_ hrc]; exact S, by omega, ⟨fun _ y hy hr => ?_, fun _ => rfl⟩⟩
          rcases end_ y hy with q | rfl
          · exact g2' y q hr
          · exact absurd hr hrc
      · obtain rfl : m = n := by omega
        refine app  S rfl rfl ?_; clear S; intro v h S; refine mv ?_; refine KO_nil ?_
        all_goals (repeat' (first | refine K_seq ?_ | refine k_cond rfl ?_ | refine K_skip ?_ | refine K_exit ?_ | refine k_block ?_ | refine K_scope ?_ | (refine K_region (id := 5) ?_; refine mv ?_; (first | refine ad ?_ | refine vl ?_); refine mv ?_; refine KO_nil ?_)))
        refine ⟨(k + 1, vs ++ [sb.val], v), ?_, ?_, (by repeat (first | exact Ks.le_nil _ | refine Ks.le_cons rfl ?_ | refine Ks.le_int ?_))⟩
        · show m - (k + 1) < m - k; omega
        · refine ⟨?_, by omega, by simp; omega⟩
          have e : blksPre N m f (k + 1) = blksPre N m f k ++ [blkPre N m f k m] := by rw [blksPre, if_pos (show leastP N m k from g2')]
          rw [e]
          have S := ((S.del (.there (.there .here))).front (.there (.there .here))).front (.there (.there .here))
          exact (S.pushLL).front (.there .here)
  · obtain rfl : k = n := by omega
    refine K_ret ⟨_, rfl, ?_⟩
    exact ⟨_, .inl ⟨i, k, rfl, hi, hq, hn, rfl⟩, by rw [← hf, ← hN]; exact RLL.of S .here (.there .here), S.drop⟩
end Go.Proofs.Xx

/-
  HallChecks: for the row.
-/
namespace Go.Proofs.Xx
open Go Go.Proofs
set_option linter.unusedSimpArgs false
set_option linter.unusedVariables false
set_option maxRecDepth 100000

theorem HallA.few {h : AH} {v : Value} {l : List Tab} (A : HallA h v l) (f : FewP l) : HallR h v l :=
  ⟨A.rd, fun i hi => ⟨(A.tab i hi).rd, by have := f.2 i hi; omega, by have := f.2 i hi; omega⟩, by have := f.1; omega, A.cap⟩
theorem fewA_ok {h0 : AH} (w : WfH h0) (v : Value) (l : List Tab) (A : HallA h0 v l) : Fn Tryz.prog Xh 19 [v] h0 (fun r h' => BoolIs r (FewP l) ∧ Hs h0 h' []) :=
  few_ok w v l A.rd A.len fun i hi => ⟨(A.tab i hi).rd, (A.tab i hi).name, (A.tab i hi).opn⟩
theorem hallChecks_true {h0 : AH} (w : WfH h0) (v : Value) (l : List Tab) (A : HallA h0 v l) (nm : List UInt8) (t : Int) : Fn Tryz.prog Xh 5 [v, str nm, .int .i64 t] h0 (fun x _ => x = .bool true) := by
  have S := Hs.start w
  refine Fn_K rfl Tryz.func5 rfl rfl ?_
  all_goals (repeat' (first | refine K_seq ?_ | refine k_cond rfl ?_ | refine K_skip ?_ | refine K_exit ?_ | refine k_block ?_ | refine K_scope ?_ | (refine K_region (id := 0) ?_; refine mv ?_; refine KO_nil ?_) | (refine K_region (id := 1) ?_; refine mv ?_)))
  (refine KO_fn rfl rfl rfl rfl rfl ((fewA_ok S.wf v l A).mono ?_); rintro _ h ⟨⟨rfl, hq⟩ | ⟨rfl, hq⟩, x⟩) <;> (replace S := S.join0 x; clear x; refine vl ?_; refine mv ?_; (first | refine off ?_ | refine mv ?_); (first | refine off ?_ | refine tl ?_); (first | refine off ?_ | (first | refine cT ?_ | refine cF ?_ | (refine cS ?_ ?_ <;> intro hc))) <;> (refine vl ?_; refine mv ?_; (first | refine off ?_ | refine mv ?_); (first | refine off ?_ | refine mv ?_); (first | refine off ?_ | refine mv ?_); (first | (refine off ?_; refine vl ?_; refine mv ?_; (first | (refine off ?_; refine vl ?_; refine mv ?_; refine KO_nil ?_) | skip)) | skip)))
  · (refine KO_fn rfl rfl rfl rfl rfl ((awake_ok).mono ?_); rintro _ h ⟨rfl, rfl⟩) <;> (refine vl ?_; refine mv ?_; refine KO_nil ?_)
    all_goals (repeat' (first | refine K_seq ?_ | refine k_cond rfl ?_ | refine K_skip ?_ | refine K_exit ?_ | refine k_block ?_ | refine K_scope ?_))
    refine K_ret ⟨_, rfl, ?_⟩
    rfl
  · (refine KO_fn rfl rfl rfl rfl rfl ((checks_ok S.wf v l ((A.few hq).ext w S.ext) nm t).mono ?_); rintro _ h ⟨rfl, x⟩) <;> (replace S := S.join0 x; clear x; refine vl ?_; refine mv ?_; (first | (refine off ?_; refine vl ?_; refine mv ?_; refine KO_nil ?_) | skip))
    (refine KO_fn rfl rfl rfl rfl rfl ((awake_ok).mono ?_); rintro _ h ⟨rfl, rfl⟩) <;> (refine vl ?_; refine mv ?_; refine KO_nil ?_)
    all_goals (repeat' (first | refine K_seq ?_ | refine k_cond rfl ?_ | refine K_skip ?_ | refine K_exit ?_ | refine k_block ?_ | refine K_scope ?_))
    refine K_ret ⟨_, rfl, ?_⟩
    rfl
  · (refine KO_fn rfl rfl rfl rfl rfl ((awake_ok).mono ?_); rintro _ h ⟨rfl, rfl⟩) <;> (refine vl ?_; refine mv ?_; refine KO_nil ?_)
    all_goals (repeat' (first | refine K_seq ?_ | refine k_cond rfl ?_ | refine K_skip ?_ | refine K_exit ?_ | refine k_block ?_ | refine K_scope ?_))
    refine K_ret ⟨_, rfl, ?_⟩
    rfl
theorem hallChecks_core (h : AH) (us : List Value) (w : WfH h) (a : ArgsR Tryz.prog h Tryz.f5.params.toList us) : Fn Tryz.prog Xh 5 us h (fun x _ => x = .bool true) := by
  rw [show Tryz.f5.params.toList = [27, 9, 3] by kernel_rfl] at a
  obtain ⟨n0, r0, us, rfl, a0, a⟩ := a.cons_inv
  obtain ⟨n1, r1, us, rfl, a1, a⟩ := a.cons_inv
  obtain ⟨n2, r2, us, rfl, a2, a⟩ := a.cons_inv
  obtain rfl := a.nil_inv
  obtain ⟨v, l, rfl, A⟩ := AR.hall1 a0
  obtain ⟨nm, rfl, -⟩ := a1.str1 (by kernel_rfl)
  obtain ⟨t, rfl, -⟩ := a2.int1 (k := .i64) (by kernel_rfl)
  exact hallChecks_true w v l A nm t
end Go.Proofs.Xx

/-
  HallHonours: Honour and Blocks of any table return what the document specifies.
-/
namespace Go.Proofs.Xx
open Go Go.Proofs
set_option linter.unusedSimpArgs false
set_option linter.unusedVariables false
set_option maxRecDepth 100000

section
variable {l2 l : List Tab}
theorem SameAll.near_ (s : SameAll l2 l) (i : Nat) : nearP (tb l2 i) = nearP (tb l i) := by have := s.all i; unfold SameTab at this; rw [this]; rfl
theorem SameAll.thon (s : SameAll l2 l) (i : Nat) : tHon (tb l2 i) = tHon (tb l i) := by have := s.all i; unfold SameTab at this; rw [this]; rfl
theorem SameAll.honR {t : Int} {out : List Int} (s : SameAll l2 l) (h : HonR l2 t out) : HonR l t out := by
  have hl := s.1
  rcases h with ⟨i, n, ld, rfl, h1, h2, h3, h4, h5⟩ | ⟨h1, rfl⟩
  · exact .inl ⟨i, n, ld, rfl, by omega, s.valid.1 h2, by rw [← s.size]; exact h3, by rw [← s.near_, ← s.thon]; exact h4, by rw [← s.sum]; exact h5⟩
  · exact .inr ⟨fun q => h1 ⟨q.1, by omega, s.valid.2 q.2.2⟩, rfl⟩
theorem SameAll.blkR {t : Int} {ls : List (List Int)} (s : SameAll l2 l) (h : BlkR l2 t ls) : BlkR l t ls := by
  have hl := s.1
  rcases h with ⟨i, n, rfl, h1, h2, h3, rfl⟩ | ⟨h1, rfl⟩
  · exact .inl ⟨i, n, rfl, by omega, s.valid.1 h2, by rw [← s.size]; exact h3, by rw [← s.near_, ← s.sum]⟩
  · exact .inr ⟨fun q => h1 ⟨q.1, by omega, s.valid.2 q.2.2⟩, rfl⟩
end
theorem HonR.nilOf {l : List Tab} {t : Int} {out : List Int} (h : HonR l t out) (q : ¬ (0 ≤ t ∧ t < l.length ∧ ValidL l)) : out = [] := h.unique (.inr ⟨q, rfl⟩)
theorem BlkR.nilOf {l : List Tab} {t : Int} {ls : List (List Int)} (h : BlkR l t ls) (q : ¬ (0 ≤ t ∧ t < l.length ∧ ValidL l)) : ls = [] := h.unique (.inr ⟨q, rfl⟩)

theorem honours_ok {h0 : AH} (w : WfH h0) (v : Value) (l : List Tab) (H : HallR h0 v l) (t : Int) : Fn Tryz.prog Xh 25 [v, .int .i64 t] h0 (fun r h' => r = .bool true ∧ Hs h0 h' []) := by
  have S := Hs.start w
  have hl := H.len
  refine Fn_K rfl Tryz.func25 rfl rfl ?_
  all_goals (repeat' (first | refine K_seq ?_ | refine k_cond rfl ?_ | refine K_skip ?_ | refine K_exit ?_ | refine k_block ?_ | refine K_scope ?_ | (refine K_region (id := 0) ?_; refine mv ?_; refine KO_nil ?_) | (refine K_region (id := 1) ?_; refine mv ?_)))
  (refine KO_fn rfl rfl rfl rfl rfl ((copy_ok S.wf v l H.rd H.len H.tab).mono ?_); rintro u g ⟨l2, sa, Hu, x⟩) <;> (replace S := S.join0 x; clear x; refine mv ?_; refine KO_nil ?_)
  have T := S
  have w1 := S.wf
  have H1 := H.ext w S.ext
  have hl2 := sa.1
  have hr1 := H1.rd
  have hru := Hu.rd
  replace S := Hs.start w1
  all_goals (repeat' (first | refine K_seq ?_ | refine k_cond rfl ?_ | refine K_skip ?_ | refine K_exit ?_ | refine k_block ?_ | refine K_scope ?_ | (refine K_region (id := 2) ?_; refine mv ?_; refine mv ?_)))
  (refine KO_fn rfl rfl rfl rfl rfl ((honour_ok S.wf u l2 (Hu.ext w1 S.ext) t).mono ?_); rintro va h ⟨oa, ho, hol, x⟩) <;> (replace S := S.join1 x; clear x; refine mv ?_; refine mv ?_)
  (refine KO_fn rfl rfl rfl rfl rfl ((blocks_ok S.wf u l2 (Hu.ext w1 S.ext) t).mono ?_); rintro vb h ⟨ls, hb, hbr, x⟩) <;> (replace S := S.join0 x; clear x; refine mv ?_; refine mv ?_; refine KO_nil ?_)
  have hoR := sa.honR ho
  have hbR := sa.blkR hb
  have hbb := hbR.bound
  have rva := Rd.of_sl S .here
  have H2 := H1.ext w1 S.ext
  have Hu2 := Hu.ext w1 S.ext
  have T2 := T.join0 S.drop
  have w2 := S.wf
  clear hr1 hru T
  have hr1 := H2.rd
  have hru := Hu2.rd
  replace S := Hs.start w2
  obtain ⟨g2, hnm⟩ : ∃ x, x = h := ⟨_, rfl⟩; subst hnm
  have fin : ∀ h, Hs g2 h [] → Fn Tryz.prog Xh 62 [u, v] h (fun r h' => r = .bool true ∧ Hs h h' []) := fun h S => by
    refine (same_ok S.wf u v l2 l (hru.ext w2 S.ext) (hr1.ext w2 S.ext) (fun i hi => (Hu2.ext w2 S.ext).tab i hi) (fun i hi => (H2.ext w2 S.ext).tab i hi) (by omega) (by omega)).mono ?_
    rintro r h' ⟨⟨rfl, q⟩ | ⟨rfl, q⟩, x⟩
    · exact ⟨rfl, x⟩
    · exact absurd sa q
  obtain ⟨vs, hv1, hv2, hv3⟩ := id hbr
  by_cases cond : 0 ≤ t ∧ t < l.length ∧ ValidL l
  · obtain ⟨c1, c2, c3⟩ := cond
    obtain ⟨i, rfl⟩ := Int.eq_ofNat_of_zero_le c1
    all_goals (repeat' (first | refine K_seq ?_ | refine k_cond rfl ?_ | refine K_skip ?_ | refine K_exit ?_ | refine k_block ?_ | refine K_scope ?_ | (refine K_region (id := 3) ?_; refine mv ?_; (first | refine cT ?_ | refine cF ?_ | (refine cS ?_ ?_ <;> intro hc)) <;> (refine mv ?_; (first | refine off ?_ | refine mv ?_); (first | refine off ?_ | refine mv ?_); (first | refine off ?_ | (first | refine lnB S ?_ | refine lnS S rfl rfl ?_)); (first | refine off ?_ | (first | refine cT ?_ | refine cF ?_ | (refine cS ?_ ?_ <;> intro hc))) <;> (refine vl ?_; refine mv ?_; (first | refine off ?_ | refine mv ?_); (first | (refine off ?_; (first | refine off ?_ | refine vl ?_); refine vl ?_; refine KO_nil ?_) | skip)))) | (refine K_region (id := 4) ?_; refine mv ?_; (first | refine lnB S ?_ | refine lnS S rfl rfl ?_); (first | refine cT ?_ | refine cF ?_ | (refine cS ?_ ?_ <;> intro hc)) <;> (refine mv ?_; (first | refine off ?_ | refine mv ?_); (first | refine off ?_ | (first | refine lnB S ?_ | refine lnS S rfl rfl ?_)); (first | refine off ?_ | (first | refine cT ?_ | refine cF ?_ | (refine cS ?_ ?_ <;> intro hc))) <;> (refine vl ?_; refine mv ?_; (first | refine off ?_ | refine mv ?_); (first | refine off ?_ | refine mv ?_); (first | (refine off ?_; refine vl ?_; refine mv ?_; refine KO_nil ?_) | skip)))) | (refine K_region (id := 5) ?_; refine mv ?_; refine mv ?_; refine mv ?_; skip)))
    (refine KO_fn rfl rfl rfl rfl rfl ((refValid_ok S.wf v l (H2.ext w2 S.ext)).mono ?_); rintro _ h ⟨⟨rfl, hq⟩ | ⟨rfl, hq⟩, x⟩) <;> (replace S := S.join0 x; clear x; (first | refine off ?_ | refine vl ?_); refine vl ?_; refine KO_nil ?_)
    rotate_left
    · exact absurd c3 hq
    all_goals (repeat' (first | refine K_seq ?_ | refine k_cond rfl ?_ | refine K_skip ?_ | refine K_exit ?_ | refine k_block ?_ | refine K_scope ?_ | (refine K_region (id := 4) ?_; refine mv ?_; (first | refine lnB S ?_ | refine lnS S rfl rfl ?_); (first | refine cT ?_ | refine cF ?_ | (refine cS ?_ ?_ <;> intro hc)) <;> (refine mv ?_; (first | refine off ?_ | refine mv ?_); (first | refine off ?_ | (first | refine lnB S ?_ | refine lnS S rfl rfl ?_)); (first | refine off ?_ | (first | refine cT ?_ | refine cF ?_ | (refine cS ?_ ?_ <;> intro hc))) <;> (refine vl ?_; refine mv ?_; (first | refine off ?_ | refine mv ?_); (first | refine off ?_ | refine mv ?_); (first | (refine off ?_; refine vl ?_; refine mv ?_; refine KO_nil ?_) | skip)))) | (refine K_region (id := 5) ?_; refine mv ?_; refine mv ?_; refine mv ?_; skip)))
    (refine KO_fn rfl rfl rfl rfl rfl ((refHonour_ok S.wf v l (H2.ext w2 S.ext) c3 i (by omega)).mono ?_); rintro vr h ⟨or_, hor, hrl, x⟩) <;> (replace S := S.join1 x; clear x)
    (refine KO_fn rfl rfl rfl rfl rfl ((equal_ok S.wf va vr oa or_ (rva.ext w2 S.ext) (Rd.of_sl S .here) (by omega) (by omega)).mono ?_); rintro _ h ⟨⟨rfl, hq2⟩ | ⟨rfl, hq2⟩, x⟩) <;> (replace S := S.join0 x; clear x; refine mv ?_; (first | refine off ?_ | refine mv ?_); (first | refine off ?_ | refine mv ?_); (first | refine off ?_ | refine mv ?_); (first | (refine off ?_; (first | (refine off ?_; refine vl ?_; refine mv ?_; (first | refine off ?_ | refine mv ?_); (first | refine off ?_ | refine mv ?_); (first | (refine off ?_; refine vl ?_; refine mv ?_; refine KO_nil ?_) | skip)) | skip)) | skip))
    rotate_left
    · exact absurd (hoR.unique hor) hq2
    replace S := S.drop
    (refine KO_fn rfl rfl rfl rfl rfl ((refBlocks_ok S.wf v l (H2.ext w2 S.ext) c3 i (by omega)).mono ?_); rintro vc h ⟨ms, hms, hmr, x⟩) <;> (replace S := S.join0 x; clear x; (first | (refine off ?_; refine vl ?_; refine mv ?_; (first | refine off ?_ | refine mv ?_); (first | refine off ?_ | refine mv ?_); (first | (refine off ?_; refine vl ?_; refine mv ?_; refine KO_nil ?_) | skip)) | skip))
    obtain rfl := hbR.unique hms
    have hn1 : ls.length ≤ 1000000 := by omega
    have hn2 : ∀ j, j < ls.length → (ls.getD j default).length ≤ 1000000 := fun j hj => Nat.le_trans (hbb.2 j hj) (by omega)
    (refine KO_fn rfl rfl rfl rfl rfl ((sameLists_ok S.wf vb vc ls ls (hbr.ext w2 S.ext) hmr hn1 hn1 hn2 hn2).mono ?_); rintro _ h ⟨⟨rfl, hq3⟩ | ⟨rfl, hq3⟩, x⟩) <;> (replace S := S.join0 x; clear x; refine vl ?_; refine mv ?_; (first | refine off ?_ | refine mv ?_); (first | refine off ?_ | refine mv ?_); (first | (refine off ?_; refine vl ?_; refine mv ?_; refine KO_nil ?_) | skip))
    rotate_left
    · exact absurd rfl hq3
    (refine KO_fn rfl rfl rfl rfl rfl ((fin _ S).mono ?_); rintro _ h ⟨rfl, x⟩) <;> (replace S := S.join0 x; clear x; refine vl ?_; refine mv ?_; refine KO_nil ?_)
    all_goals (repeat' (first | refine K_seq ?_ | refine k_cond rfl ?_ | refine K_skip ?_ | refine K_exit ?_ | refine k_block ?_ | refine K_scope ?_))
    refine K_ret ⟨_, rfl, ?_⟩
    exact ⟨rfl, T2.join0 S⟩
  · have z1 : oa.length = 0 := by rw [hoR.nilOf cond]; rfl
    have z2 : vs.length = 0 := by rw [hv2, hbR.nilOf cond]; rfl
    skip
    all_goals (repeat' (first | refine K_seq ?_ | refine k_cond rfl ?_ | refine K_skip ?_ | refine K_exit ?_ | refine k_block ?_ | refine K_scope ?_ | (refine K_region (id := 3) ?_; refine mv ?_; (first | refine cT ?_ | refine cF ?_ | (refine cS ?_ ?_ <;> intro hc)) <;> (refine mv ?_; (first | refine off ?_ | refine mv ?_); (first | refine off ?_ | refine mv ?_); (first | refine off ?_ | (first | refine lnB S ?_ | refine lnS S rfl rfl ?_)); (first | refine off ?_ | (first | refine cT ?_ | refine cF ?_ | (refine cS ?_ ?_ <;> intro hc))) <;> (refine vl ?_; refine mv ?_; (first | refine off ?_ | refine mv ?_); (first | (refine off ?_; (first | refine off ?_ | refine vl ?_); refine vl ?_; refine KO_nil ?_) | skip)))) | (refine K_region (id := 4) ?_; refine mv ?_; (first | refine lnB S ?_ | refine lnS S rfl rfl ?_); (first | refine cT ?_ | refine cF ?_ | (refine cS ?_ ?_ <;> intro hc)) <;> (refine mv ?_; (first | refine off ?_ | refine mv ?_); (first | refine off ?_ | (first | refine lnB S ?_ | refine lnS S rfl rfl ?_)); (first | refine off ?_ | (first | refine cT ?_ | refine cF ?_ | (refine cS ?_ ?_ <;> intro hc))) <;> (refine vl ?_; refine mv ?_; (first | refine off ?_ | refine mv ?_); (first | refine off ?_ | refine mv ?_); (first | (refine off ?_; refine vl ?_; refine mv ?_; refine KO_nil ?_) | skip)))) | (refine K_region (id := 5) ?_; refine mv ?_; refine mv ?_; refine mv ?_; skip)))
    · (refine KO_fn rfl rfl rfl rfl rfl ((fin _ S).mono ?_); rintro _ h ⟨rfl, x⟩) <;> (replace S := S.join0 x; clear x; refine vl ?_; refine mv ?_; refine KO_nil ?_)
      all_goals (repeat' (first | refine K_seq ?_ | refine k_cond rfl ?_ | refine K_skip ?_ | refine K_exit ?_ | refine k_block ?_ | refine K_scope ?_))
      refine K_ret ⟨_, rfl, ?_⟩
      exact ⟨rfl, T2.join0 S⟩
    · (refine KO_fn rfl rfl rfl rfl rfl ((fin _ S).mono ?_); rintro _ h ⟨rfl, x⟩) <;> (replace S := S.join0 x; clear x; refine vl ?_; refine mv ?_; refine KO_nil ?_)
      all_goals (repeat' (first | refine K_seq ?_ | refine k_cond rfl ?_ | refine K_skip ?_ | refine K_exit ?_ | refine k_block ?_ | refine K_scope ?_))
      refine K_ret ⟨_, rfl, ?_⟩
      exact ⟨rfl, T2.join0 S⟩
    · (refine KO_fn rfl rfl rfl rfl rfl ((refValid_ok S.wf v l (H2.ext w2 S.ext)).mono ?_); rintro _ h ⟨⟨rfl, hq⟩ | ⟨rfl, hq⟩, x⟩) <;> (replace S := S.join0 x; clear x; (first | refine off ?_ | refine vl ?_); refine vl ?_; refine KO_nil ?_)
      · exact absurd ⟨by omega, by omega, hq⟩ cond
      all_goals (repeat' (first | refine K_seq ?_ | refine k_cond rfl ?_ | refine K_skip ?_ | refine K_exit ?_ | refine k_block ?_ | refine K_scope ?_ | (refine K_region (id := 4) ?_; refine mv ?_; (first | refine lnB S ?_ | refine lnS S rfl rfl ?_); (first | refine cT ?_ | refine cF ?_ | (refine cS ?_ ?_ <;> intro hc)) <;> (refine mv ?_; (first | refine off ?_ | refine mv ?_); (first | refine off ?_ | (first | refine lnB S ?_ | refine lnS S rfl rfl ?_)); (first | refine off ?_ | (first | refine cT ?_ | refine cF ?_ | (refine cS ?_ ?_ <;> intro hc))) <;> (refine vl ?_; refine mv ?_; (first | refine off ?_ | refine mv ?_); (first | refine off ?_ | refine mv ?_); (first | (refine off ?_; refine vl ?_; refine mv ?_; refine KO_nil ?_) | skip))))))
      (refine KO_fn rfl rfl rfl rfl rfl ((fin _ S).mono ?_); rintro _ h ⟨rfl, x⟩) <;> (replace S := S.join0 x; clear x; refine vl ?_; refine mv ?_; refine KO_nil ?_)
      all_goals (repeat' (first | refine K_seq ?_ | refine k_cond rfl ?_ | refine K_skip ?_ | refine K_exit ?_ | refine k_block ?_ | refine K_scope ?_ | (refine K_region (id := 4) ?_; refine mv ?_; (first | refine lnB S ?_ | refine lnS S rfl rfl ?_); (first | refine cT ?_ | refine cF ?_ | (refine cS ?_ ?_ <;> intro hc)) <;> (refine mv ?_; (first | refine off ?_ | refine mv ?_); (first | refine off ?_ | (first | refine lnB S ?_ | refine lnS S rfl rfl ?_)); (first | refine off ?_ | (first | refine cT ?_ | refine cF ?_ | (refine cS ?_ ?_ <;> intro hc))) <;> (refine vl ?_; refine mv ?_; (first | refine off ?_ | refine mv ?_); (first | refine off ?_ | refine mv ?_); (first | (refine off ?_; refine vl ?_; refine mv ?_; refine KO_nil ?_) | skip)))) | (refine K_region (id := 5) ?_; refine mv ?_; refine mv ?_; refine mv ?_; skip)))
      refine K_ret ⟨_, rfl, ?_⟩
      exact ⟨rfl, T2.join0 S⟩

theorem hallHonours_true {h0 : AH} (w : WfH h0) (v : Value) (l : List Tab) (A : HallA h0 v l) (t : Int) : Fn Tryz.prog Xh 7 [v, .int .i64 t] h0 (fun x _ => x = .bool true) := by
  have S := Hs.start w
  refine Fn_K rfl Tryz.func7 rfl rfl ?_
  all_goals (repeat' (first | refine K_seq ?_ | refine k_cond rfl ?_ | refine K_skip ?_ | refine K_exit ?_ | refine k_block ?_ | refine K_scope ?_ | (refine K_region (id := 0) ?_; refine mv ?_; refine KO_nil ?_) | (refine K_region (id := 1) ?_; refine mv ?_)))
  (refine KO_fn rfl rfl rfl rfl rfl ((fewA_ok S.wf v l A).mono ?_); rintro _ h ⟨⟨rfl, hq⟩ | ⟨rfl, hq⟩, x⟩) <;> (replace S := S.join0 x; clear x; refine vl ?_; refine mv ?_; (first | refine off ?_ | refine mv ?_); (first | refine off ?_ | refine mv ?_); (first | (refine off ?_; refine vl ?_; refine mv ?_; (first | (refine off ?_; refine vl ?_; refine mv ?_; refine KO_nil ?_) | skip)) | skip))
  · (refine KO_fn rfl rfl rfl rfl rfl ((honours_ok S.wf v l ((A.few hq).ext w S.ext) t).mono ?_); rintro _ h ⟨rfl, x⟩) <;> (replace S := S.join0 x; clear x; refine vl ?_; refine mv ?_; (first | (refine off ?_; refine vl ?_; refine mv ?_; refine KO_nil ?_) | skip))
    (refine KO_fn rfl rfl rfl rfl rfl ((awake_ok).mono ?_); rintro _ h ⟨rfl, rfl⟩) <;> (refine vl ?_; refine mv ?_; refine KO_nil ?_)
    all_goals (repeat' (first | refine K_seq ?_ | refine k_cond rfl ?_ | refine K_skip ?_ | refine K_exit ?_ | refine k_block ?_ | refine K_scope ?_))
    refine K_ret ⟨_, rfl, ?_⟩
    rfl
  · (refine KO_fn rfl rfl rfl rfl rfl ((awake_ok).mono ?_); rintro _ h ⟨rfl, rfl⟩) <;> (refine vl ?_; refine mv ?_; refine KO_nil ?_)
    all_goals (repeat' (first | refine K_seq ?_ | refine k_cond rfl ?_ | refine K_skip ?_ | refine K_exit ?_ | refine k_block ?_ | refine K_scope ?_))
    refine K_ret ⟨_, rfl, ?_⟩
    rfl
theorem hallHonours_core (h : AH) (us : List Value) (w : WfH h) (a : ArgsR Tryz.prog h Tryz.f7.params.toList us) : Fn Tryz.prog Xh 7 us h (fun x _ => x = .bool true) := by
  rw [show Tryz.f7.params.toList = [27, 3] by kernel_rfl] at a
  obtain ⟨n0, r0, us, rfl, a0, a⟩ := a.cons_inv
  obtain ⟨n2, r2, us, rfl, a2, a⟩ := a.cons_inv
  obtain rfl := a.nil_inv
  obtain ⟨v, l, rfl, A⟩ := AR.hall1 a0
  obtain ⟨t, rfl, -⟩ := a2.int1 (k := .i64) (by kernel_rfl)
  exact hallHonours_true w v l A t
end Go.Proofs.Xx

/-
  What is known of the listed variables (nothing is asked of them here); a block of cells that is there in every world.
-/
namespace Go.Proofs.Xx
open Go Go.RowKit Go.Proofs
instance globAny : Glob := ⟨fun _ => True⟩
theorem Xh_none (f : FuncId) (h1 : f ≠ 21) (h2 : f ≠ 200) (us : List Value) (h : AH) : Xh f us h = none := by
  have e1 : Nat.beq f 21 = false := by rw [Bool.eq_false_iff]; intro q; exact h1 (Nat.eq_of_beq_eq_true q)
  have e2 : Nat.beq f 200 = false := by rw [Bool.eq_false_iff]; intro q; exact h2 (Nat.eq_of_beq_eq_true q)
  unfold Xh withKnown externNoEscape
  simp only [e1, e2]
theorem gDe : Tryz.prog.globalNamed "math/bits.deBruijn32tab" = some 2 := by kernel_rfl
theorem gDeType : (Tryz.prog.globals[2]?).map (·.type) = some 211 := by kernel_rfl
theorem cell_block {W : World} {b o : Nat} {v : Value} (h : W.cell? ⟨b, o, none⟩ = some v) : ∃ (k : Nat) (cc : Array Value) (el : TypeId) (fr : Nat × Nat), W.heap[k]? = some (.cells cc el fr) := by
  unfold World.cell? at h
  split at h
  · rename_i c e f hc; exact ⟨b, c, e, f, hc⟩
  · cases h
theorem cells_there {W : World} {rest : List (String × DataW Unit)} (h : laidMet Tryz.prog (("math/bits.deBruijn32tab", YtnopenpheaihmaaGreatDoor.Rows.laid_math_bits_deBruijn32tab) :: rest) W) :
    ∃ (k : Nat) (cc : Array Value) (el : TypeId) (fr : Nat × Nat), W.heap[k]? = some (.cells cc el fr) := by
  have t : Lib.TabIs Tryz.prog W "math/bits.deBruijn32tab" .u8 [0, 1, 28, 2, 29, 14, 24, 3, 30, 22, 20, 15, 25, 17, 4, 8, 31, 27, 13, 23, 21, 19, 16, 7, 26, 12, 18, 6, 11, 5, 10, 9] :=
    Lib.tabIs_of_head gDe gDeType (n := 32) (e := 5) (by kernel_rfl) (by kernel_rfl) (by kernel_rfl) (by kernel_rfl) h
  exact cell_block (t.cell gDe 0 (by decide))
end Go.Proofs.Xx
