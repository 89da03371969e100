/-
  Levels, near seats, the order of honour.
-/
import Derived.Test.YtnopenpheaihmaaGreatDoorM12
import Derived.Test.YtnopenpheaihmaaGreatDoorM8

namespace Go.Proofs.Xx
set_option linter.unusedVariables false

section
variable {N : Int → Int → Prop} {n s : Nat} {ld : List Int}
/-- The level of a place. -/
def lev (n : Nat) (ld : List Int) (k : Nat) : Int := if ld.getD k default < 0 then (n : Int) else ld.getD k default
end

/-! ### the order of honour, by index -/
section
variable {key : Int → Int} {f : Int} {n : Nat} {out : List Int}
theorem HonL.at_ (h : HonL key f n out) {i j : Nat} (hij : i < j) (hj : j < out.length) : lexi key (out.getD i default) (out.getD j default) := by
  have := List.pairwise_iff_getElem.1 h.1 i j (by omega) hj hij
  rw [List.getD_eq_getElem?_getD, List.getD_eq_getElem?_getD, List.getElem?_eq_getElem hj, List.getElem?_eq_getElem (show i < out.length by omega)]
  exact this
theorem HonL.mem_ (h : HonL key f n out) {i : Nat} (hi : i < out.length) : f ≤ out.getD i default ∧ out.getD i default < f + n := by
  refine (h.2 _).1 ?_
  rw [List.getD_eq_getElem?_getD, List.getElem?_eq_getElem hi]
  exact List.getElem_mem hi
theorem HonL.inj (h : HonL key f n out) {i j : Nat} (hi : i < out.length) (hj : j < out.length) (e : out.getD i default = out.getD j default) : i = j := by
  have irr := (lexi_ord key).irr
  rcases Nat.lt_trichotomy i j with q | q | q
  · have := h.at_ q hj; rw [e] at this; exact absurd this (irr _)
  · exact q
  · have := h.at_ q hi; rw [e] at this; exact absurd this (irr _)
theorem HonL.pos_ (h : HonL key f n out) {k : Nat} (hk : k < n) : ∃ i, i < out.length ∧ out.getD i default = f + k := by
  have := (h.2 (f + k)).2 ⟨by omega, by omega⟩
  obtain ⟨i, hi, e⟩ := List.getElem_of_mem this
  refine ⟨i, hi, ?_⟩
  rw [List.getD_eq_getElem?_getD, List.getElem?_eq_getElem hi]; exact e
theorem HonL.len (h : HonL key f n out) : out.length = n := by
  refine Nat.le_antisymm ?_ ?_
  · refine pigeon n out.length (fun i => (out.getD i default - f).toNat) (fun k hk => ?_) fun i j hi hj e => ?_
    · have := h.mem_ hk; show (out.getD k default - f).toNat < n; omega
    · have a := h.mem_ hi
      have b := h.mem_ hj
      have e : (out.getD i default - f).toNat = (out.getD j default - f).toNat := e
      exact h.inj hi hj (by omega)
  · have ch : ∀ k, ∃ i, k < n → i < out.length ∧ out.getD i default = f + k := fun k => by
      by_cases hk : k < n
      · obtain ⟨i, hi⟩ := h.pos_ hk; exact ⟨i, fun _ => hi⟩
      · exact ⟨0, fun q => absurd q hk⟩
    obtain ⟨g, hg⟩ := Classical.axiomOfChoice ch
    refine pigeon out.length n g (fun k hk => (hg k hk).1) fun i j hi hj e => ?_
    have a := (hg i hi).2
    have b := (hg j hj).2
    rw [e] at a
    omega
/-- The first in the order of honour is the only one with the key 0. -/
theorem HonL.zero (h : HonL key f n out) {s : Nat} (hs : s < n) (hz : ∀ k : Nat, k < n → (key (f + k) = 0 ↔ k = s)) (hb : ∀ k : Nat, k < n → 0 ≤ key (f + k)) {i : Nat} (hi : i < out.length) : key (out.getD i default) = 0 ↔ i = 0 := by
  have at' : ∀ {i : Nat}, i < out.length → ∃ k : Nat, k < n ∧ out.getD i default = f + k := fun {i} hi => by
    have := h.mem_ hi
    exact ⟨(out.getD i default - f).toNat, by omega, by omega⟩
  obtain ⟨j, hj, ej⟩ := h.pos_ hs
  have k0 : key (out.getD j default) = 0 := by rw [ej]; exact (hz s hs).2 rfl
  have uniq : ∀ {i : Nat}, i < out.length → key (out.getD i default) = 0 → i = j := fun {i} hi e => by
    obtain ⟨k, hk, ek⟩ := at' hi
    rw [ek] at e
    have := (hz k hk).1 e
    subst this
    exact h.inj hi hj (by rw [ek, ej])
  have j0 : j = 0 := by
    rcases Nat.eq_zero_or_pos j with q | q
    · exact q
    · exfalso
      have hl := h.at_ q hj
      obtain ⟨k, hk, ek⟩ := at' (show 0 < out.length by omega)
      have := hb k hk
      rw [← ek] at this
      unfold lexi at hl
      have e0 : key (out.getD 0 default) = 0 := by omega
      have := uniq (show 0 < out.length by omega) e0
      omega
  constructor
  · intro q; rw [uniq hi q, j0]
  · intro q; rw [q, ← j0]; exact k0
end
end Go.Proofs.Xx

/-
  HallLevels: the order of honour goes by levels.
-/
namespace Go.Proofs.Xx
open Go Go.Proofs
set_option linter.unusedSimpArgs false
set_option linter.unusedVariables false
set_option maxRecDepth 100000

theorem lvl_lev {n : Nat} {ld : List Int} {k : Nat} (h : k < ld.length) : (lvl n ld).getD k default = lev n ld k := by rw [lvl_get n ld k h]; rfl
theorem LevR.is {l : List Tab} {a d : Int} {i k n : Nat} {ld : List Int} (h : LevR l a d) (w : WhereI l a i k) (hn : tsize (tb l i) = n) (D : DistL (nearP (tb l i)) n (tHon (tb l i)).toNat ld) : d = lev n ld k := by
  have hnn : (tsize (tb l i)).toNat = n := by omega
  rcases h with ⟨i', k', ld', w', D', e⟩ | ⟨-, h⟩
  · obtain ⟨rfl, rfl⟩ := w.unique w'
    rw [hnn] at D' e
    obtain rfl := D.unique D'
    rw [e, lvl_lev]
    have := w.2.2.1
    rw [D.1]; omega
  · exact absurd w (h _ _)
theorem NbR.is {l : List Tab} {a : Int} {i k n : Nat} {out : List Int} (h : NbR l a out) (w : WhereI l a i k) (hn : tsize (tb l i) = n) : out = nbUp (nearP (tb l i)) k a n := by
  have hnn : (tsize (tb l i)).toNat = n := by omega
  rcases h with ⟨i', k', w', e⟩ | ⟨-, h⟩
  · obtain ⟨rfl, rfl⟩ := w.unique w'
    rw [e, hnn]
  · exact absurd w (h _ _)
theorem DistR.is {l : List Tab} {a b d : Int} {f : Bool} {i k m n : Nat} (h : DistR l a b d f) (w1 : WhereI l a i k) (w2 : WhereI l b i m) (hn : tsize (tb l i) = n) : f = true ↔ ∃ e, Wk (nearP (tb l i)) n k e m := by
  have hnn : (tsize (tb l i)).toNat = n := by omega
  rcases h with ⟨rfl, i', k', m', e, q1, q2, -, q3⟩ | ⟨rfl, -, q⟩
  · obtain ⟨rfl, rfl⟩ := w1.unique q1
    obtain ⟨-, rfl⟩ := w2.unique q2
    rw [hnn] at q3
    exact ⟨fun _ => ⟨e, q3.1⟩, fun _ => rfl⟩
  · refine ⟨fun q => (by cases q), fun ⟨e, he⟩ => ?_⟩
    obtain ⟨e', -, h2⟩ := he.least
    exact absurd (by rw [hnn]; exact h2) (q i k m e' w1 w2)
theorem HonR.is {l : List Tab} {i n : Nat} {out : List Int} (h : HonR l i out) (hi : i < l.length) (hv : ValidL l) (hn : tsize (tb l i) = n) : ∃ ld, DistL (nearP (tb l i)) n (tHon (tb l i)).toNat ld ∧ HonL (fun x => (lvl n ld).getD (x - sumT l i).toNat default) (sumT l i) n out := by
  rcases h with ⟨i', n', ld, e, h1, h2, h3, h4, h5⟩ | ⟨h1, -⟩
  · obtain rfl : i = i' := by omega
    obtain rfl : n = n' := by omega
    exact ⟨ld, h4, h5⟩
  · exact absurd ⟨by omega, by omega, hv⟩ h1
theorem nearP_symm' (t : Tab) (x y : Int) (h : nearP t x y) : nearP t y x := by
  rcases h with h | h
  · exact .inl ((besideP_symm t x y).1 h)
  · exact .inr ((acrossP_symm t x y).1 h)

end Go.Proofs.Xx

/-
  Blocks of places that reach each other.
-/
namespace Go.Proofs.Xx
set_option linter.unusedVariables false

section
variable {N : Int → Int → Prop} {n : Nat}
def Rch (N : Int → Int → Prop) (n k m : Nat) : Prop := ∃ d, Wk N n k d m
theorem Rch.refl (k : Nat) : Rch N n k k := ⟨0, rfl⟩
theorem Wk.trans {s y : Nat} {d : Nat} (h : Wk N n s d y) : ∀ {e z : Nat}, Wk N n y e z → Wk N n s (d + e) z
  | 0, z, g => by
    have : z = y := g
    subst this; exact h
  | e + 1, z, ⟨x, hx, g, hn⟩ => ⟨x, hx, Wk.trans h g, hn⟩
theorem Wk.symm (hN : ∀ x y, N x y → N y x) {s : Nat} (hs : s < n) : ∀ {d y : Nat}, y < n → Wk N n s d y → Wk N n y d s
  | 0, y, hy, h => Eq.symm (show y = s from h)
  | d + 1, y, hy, ⟨x, hx, h, hn⟩ => by
    have h1 : Wk N n y 1 x := ⟨y, hy, rfl, hN _ _ hn⟩
    have := Wk.trans h1 (Wk.symm hN hs hx h)
    rwa [Nat.add_comm] at this
theorem Rch.trans {a b c : Nat} (h : Rch N n a b) (g : Rch N n b c) : Rch N n a c := by
  obtain ⟨d, h⟩ := h
  obtain ⟨e, g⟩ := g
  exact ⟨d + e, h.trans g⟩
theorem Rch.symm (hN : ∀ x y, N x y → N y x) {a b : Nat} (ha : a < n) (hb : b < n) (h : Rch N n a b) : Rch N n b a := by
  obtain ⟨d, h⟩ := h
  exact ⟨d, h.symm hN ha hb⟩
theorem DistL.rch {s : Nat} {l : List Int} (h : DistL N n s l) {y : Nat} (hy : y < n) : 0 ≤ l.getD y default ↔ Rch N n s y := by
  rcases h.2 y hy with ⟨h1, h2⟩ | ⟨d, h1, h2⟩
  · exact ⟨fun q => by omega, fun ⟨d, q⟩ => absurd q (h2 d)⟩
  · exact ⟨fun _ => ⟨d, h2.1⟩, fun _ => by omega⟩

open Classical in
/-- What k reaches among the first m. -/
noncomputable def blkPre (N : Int → Int → Prop) (n : Nat) (f : Int) (k : Nat) : Nat → List Int
  | 0 => []
  | m + 1 => if Rch N n k m then blkPre N n f k m ++ [f + (m : Int)] else blkPre N n f k m
theorem blkPre_len (f : Int) (k : Nat) : ∀ m, (blkPre N n f k m).length ≤ m
  | 0 => Nat.le_refl _
  | m + 1 => by
    have := blkPre_len f k m
    unfold blkPre
    split
    · simp; omega
    · omega
def leastP (N : Int → Int → Prop) (n k : Nat) : Prop := ∀ m, m < n → Rch N n k m → k ≤ m
open Classical in
/-- The blocks whose least place is among the first m. -/
noncomputable def blksPre (N : Int → Int → Prop) (n : Nat) (f : Int) : Nat → List (List Int)
  | 0 => []
  | m + 1 => if leastP N n m then blksPre N n f m ++ [blkPre N n f m n] else blksPre N n f m
theorem blksPre_len (f : Int) : ∀ m, (blksPre N n f m).length ≤ m
  | 0 => Nat.le_refl _
  | m + 1 => by
    have := blksPre_len f m
    unfold blksPre
    split
    · simp; omega
    · omega
theorem blkPre_mem (f : Int) (k : Nat) : ∀ (m : Nat) (x : Int), x ∈ blkPre N n f k m ↔ ∃ j : Nat, j < m ∧ Rch N n k j ∧ x = f + (j : Int)
  | 0, x => by simp [blkPre]
  | m + 1, x => by
    have ih := blkPre_mem f k m x
    unfold blkPre
    split
    · rename_i h
      rw [List.mem_append, ih, List.mem_singleton]
      constructor
      · rintro (⟨j, h1, h2, h3⟩ | h1)
        · exact ⟨j, by omega, h2, h3⟩
        · exact ⟨m, by omega, h, h1⟩
      · rintro ⟨j, h1, h2, h3⟩
        rcases Nat.lt_or_ge j m with q | q
        · exact .inl ⟨j, q, h2, h3⟩
        · have : j = m := by omega
          subst this; exact .inr h3
    · rename_i h
      rw [ih]
      constructor
      · rintro ⟨j, h1, h2, h3⟩; exact ⟨j, by omega, h2, h3⟩
      · rintro ⟨j, h1, h2, h3⟩
        rcases Nat.lt_or_ge j m with q | q
        · exact ⟨j, q, h2, h3⟩
        · have : j = m := by omega
          subst this; exact absurd h2 h
end
end Go.Proofs.Xx

/-
  Lists of lists; the blocks of a table.
-/
namespace Go.Proofs.Xx
open Go Go.Proofs
set_option linter.unusedSimpArgs false
set_option linter.unusedVariables false
set_option maxRecDepth 100000

/-- The values vs read as the lists ls. -/
def LLs (vs : List Value) (ls : List (List Int)) (h : AH) (fp : Fp) : Prop := vs.length = ls.length ∧ ∀ j, j < ls.length → RdL h (vs.getD j default) 1 eI (ls.getD j default)
def RLL (h : AH) (v : Value) (ls : List (List Int)) : Prop := ∃ vs, RdL h v 1 eV vs ∧ vs.length = ls.length ∧ ∀ j, j < ls.length → RdL h (vs.getD j default) 1 eI (ls.getD j default)
theorem RLL.ext {h h' : AH} {v : Value} {ls : List (List Int)} (r : RLL h v ls) (w : WfH h) (x : Ext h h') : RLL h' v ls := by
  obtain ⟨vs, h1, h2, h3⟩ := r
  exact ⟨vs, h1.ext w x, h2, fun j hj => (h3 j hj).ext w x⟩
theorem RLL.nil {h : AH} : RLL h (.slice none 0 0) [] := ⟨[], Rd.none_ h 1, rfl, fun j hj => absurd hj (Nat.not_lt_zero _)⟩
theorem LLs.nil (h : AH) (fp : Fp) : LLs [] [] h fp := ⟨rfl, fun j hj => absurd hj (Nat.not_lt_zero _)⟩
/-- A list of one's own is put behind the lists that are read. -/
theorem Hs.pushLL {h0 h : AH} {rs : List Rs} {b : Value} {e : TypeId} {l : List Int} {vs : List Value} {ls : List (List Int)} (S : Hs h0 h (.sl b e 1 eI l :: .any (LLs vs ls) :: rs)) : Hs h0 h (.any (LLs (vs ++ [b]) (ls ++ [l])) :: rs) :=
  S.merge fun f1 f2 k1 k2 h'' hh => by
    have k2 := k2 h'' fun b hb => hh b (.inr hb)
    have k1 := k1.local fun b hb => hh b (.inl hb)
    refine ⟨by simp [k2.1], fun j hj => ?_⟩
    rw [List.length_append, List.length_cons, List.length_nil] at hj
    rcases Nat.lt_or_ge j ls.length with q | q
    · rw [getD_snoc1 _ _ (by rw [k2.1]; exact q), getD_snoc1 _ _ q]; exact k2.2 j q
    · rw [getD_snoc2 _ _ (by rw [k2.1]; omega), getD_snoc2 _ _ (by omega)]
      rcases k1 with ⟨rfl, rfl⟩ | ⟨b', o, cc, slk, g1, g2, g3, g4, g5⟩
      · exact Rd.none_ _ 1
      · exact .inr ⟨b', o, _, cc, e, slk, false, g1, g2, g4⟩
theorem RLL.of {h0 h : AH} {rs : List Rs} {v : Value} {e : TypeId} {vs : List Value} {ls : List (List Int)} (S : Hs h0 h rs) (a : At rs (.sl v e 1 eV vs)) (b : At rs (.any (LLs vs ls))) : RLL h v ls := by
  obtain ⟨fp, k⟩ := S.anyP b
  exact ⟨vs, Rd.of_sl S a, k.1, k.2⟩

def BlkR (l : List Tab) (t : Int) (ls : List (List Int)) : Prop :=
  (∃ i n : Nat, t = i ∧ i < l.length ∧ ValidL l ∧ tsize (tb l i) = n ∧ ls = blksPre (nearP (tb l i)) n (sumT l i) n) ∨ (¬ (0 ≤ t ∧ t < l.length ∧ ValidL l) ∧ ls = [])
theorem BlkR.unique {l : List Tab} {t : Int} {a b : List (List Int)} (ha : BlkR l t a) (hb : BlkR l t b) : a = b := by
  rcases ha with ⟨i, n, rfl, h1, h2, h3, rfl⟩ | ⟨h1, rfl⟩ <;> rcases hb with ⟨i', n', e, g1, g2, g3, rfl⟩ | ⟨g1, rfl⟩
  · obtain rfl : i = i' := by omega
    obtain rfl : n = n' := by omega
    rfl
  · exact absurd ⟨by omega, by omega, h2⟩ g1
  · exact absurd ⟨by omega, by omega, g2⟩ h1
  · rfl
theorem nearP_symm (t : Tab) (x y : Int) (h : nearP t x y) : nearP t y x := by
  rcases h with h | h
  · exact .inl ((besideP_symm t x y).1 h)
  · exact .inr ((acrossP_symm t x y).1 h)

theorem blocks_ok {h0 : AH} (w : WfH h0) (v : Value) (l : List Tab) (H : HallR h0 v l) (t : Int) : Fn Tryz.prog Xh 46 [v, .int .i64 t] h0 (fun r h' => ∃ ls, BlkR l t ls ∧ RLL h' r ls ∧ Hs h0 h' []) := by
  have S := Hs.start w
  have hl := H.len
  have hr := H.rd
  by_cases ht0 : t < 0
  · refine Fn_K rfl Tryz.func46 rfl rfl ?_
    all_goals (repeat' (first | refine K_seq ?_ | refine k_cond rfl ?_ | refine K_skip ?_ | refine K_exit ?_ | refine k_block ?_ | refine K_scope ?_ | (refine K_region (id := 0) ?_; refine mv ?_; refine KO_nil ?_) | (refine K_region (id := 1) ?_; refine mv ?_; (first | refine cT ?_ | refine cF ?_ | (refine cS ?_ ?_ <;> intro hc)) <;> (refine mv ?_; (first | refine off ?_ | refine mv ?_); (first | refine off ?_ | refine mv ?_); (first | refine off ?_ | (first | refine lnB S ?_ | refine lnS S rfl rfl ?_)); (first | refine off ?_ | (first | refine cT ?_ | refine cF ?_ | (refine cS ?_ ?_ <;> intro hc))) <;> (refine vl ?_; refine mv ?_; (first | refine off ?_ | refine mv ?_); (first | (refine off ?_; (first | refine off ?_ | refine vl ?_); refine vl ?_; refine KO_nil ?_) | skip)))) | (refine K_region (id := 2) ?_; refine mv ?_; refine KO_nil ?_) | (refine K_region (id := 3) ?_; refine mv ?_; refine mv ?_)))
    all_goals (try omega)
    refine K_ret ⟨_, rfl, ?_⟩
    exact ⟨[], .inr ⟨by omega, rfl⟩, .nil, S⟩
  obtain ⟨i, rfl⟩ := Int.eq_ofNat_of_zero_le (show 0 ≤ t by omega)
  refine Fn_K rfl Tryz.func46 rfl rfl ?_
  all_goals (repeat' (first | refine K_seq ?_ | refine k_cond rfl ?_ | refine K_skip ?_ | refine K_exit ?_ | refine k_block ?_ | refine K_scope ?_ | (refine K_region (id := 0) ?_; refine mv ?_; refine KO_nil ?_) | (refine K_region (id := 1) ?_; refine mv ?_; (first | refine cT ?_ | refine cF ?_ | (refine cS ?_ ?_ <;> intro hc)) <;> (refine mv ?_; (first | refine off ?_ | refine mv ?_); (first | refine off ?_ | refine mv ?_); (first | refine off ?_ | (first | refine lnB S ?_ | refine lnS S rfl rfl ?_)); (first | refine off ?_ | (first | refine cT ?_ | refine cF ?_ | (refine cS ?_ ?_ <;> intro hc))) <;> (refine vl ?_; refine mv ?_; (first | refine off ?_ | refine mv ?_); (first | (refine off ?_; (first | refine off ?_ | refine vl ?_); refine vl ?_; refine KO_nil ?_) | skip)))) | (refine K_region (id := 2) ?_; refine mv ?_; refine KO_nil ?_) | (refine K_region (id := 3) ?_; refine mv ?_; refine mv ?_)))
  all_goals (try omega)
  · refine K_ret ⟨_, rfl, ?_⟩
    exact ⟨[], .inr ⟨by omega, rfl⟩, .nil, S⟩
  · (refine KO_fn rfl rfl rfl rfl rfl ((valid_ok S.wf v l H).mono ?_); rintro _ h ⟨⟨rfl, hq⟩ | ⟨rfl, hq⟩, x⟩) <;> (replace S := S.join0 x; clear x; (first | refine off ?_ | refine vl ?_); refine vl ?_; refine KO_nil ?_)
    all_goals (repeat' (first | refine K_seq ?_ | refine k_cond rfl ?_ | refine K_skip ?_ | refine K_exit ?_ | refine k_block ?_ | refine K_scope ?_ | (refine K_region (id := 2) ?_; refine mv ?_; refine KO_nil ?_) | (refine K_region (id := 3) ?_; refine mv ?_; refine mv ?_)))
    · have hi : i < l.length := by omega
      have hts := hq.tabS hi
      have t1 := tsize_le (tb l i)
      have t2 := hts.pos
      have b1 := sumT_le l i
      obtain ⟨n, hn⟩ := Int.eq_ofNat_of_zero_le t1.1
      (try simp only [Int.toNat_natCast] at *)
      obtain ⟨f, hf⟩ : ∃ f, f = sumT l i := ⟨_, rfl⟩
      have ef : firstV l i = f := by unfold firstV; rw [if_pos ⟨by omega, by omega, hq⟩, Int.toNat_natCast, hf]
      rw [← hf] at b1
      (refine KO_fn rfl rfl rfl rfl rfl ((first_ok S.wf v l (H.ext w S.ext) i).mono ?_); rintro _ h ⟨rfl, x⟩) <;> (replace S := S.join0 x; clear x; rw [ef]; refine mv ?_; refine KO_nil ?_)
      all_goals (repeat' (first | refine K_seq ?_ | refine k_cond rfl ?_ | refine K_skip ?_ | refine K_exit ?_ | refine k_block ?_ | refine K_scope ?_ | (refine K_region (id := 4) ?_; refine mv ?_; refine mv ?_; (first | refine ixB S ?_ | refine ixS2 S rfl rfl ?_); (first | refine lB S rfl rfl ?_ | refine lES2 S rfl rfl ?_ | refine lEB S ?_ | refine lH S ?_))))
      (try simp only [Int.toNat_natCast] at *)
      (refine KO_fn rfl rfl rfl rfl rfl ((size_ok S.wf (tb l i)).mono ?_); rintro _ h ⟨rfl, x⟩) <;> (replace S := S.join0 x; clear x; rw [hn])
      refine m_make (z := 1) (by_ := 1) (enc := eB) (y0 := false) S rfl rfl rfl rfl rfl rfl rfl rfl rfl (by intro _; rfl) (by first | omega | grind) rfl rfl ?_; clear S; intro v h S; refine mv ?_; refine KO_nil ?_
      simp only [Int.toNat_natCast] at S
      obtain ⟨vd, hnm⟩ : ∃ x, x = v := ⟨_, rfl⟩; subst hnm
      obtain ⟨N, hN⟩ : ∃ N, N = nearP (tb l i) := ⟨_, rfl⟩
      have hsym : ∀ x y, N x y → N y x := by rw [hN]; exact nearP_symm _
      all_goals (repeat' (first | refine K_seq ?_ | refine k_cond rfl ?_ | refine K_skip ?_ | refine K_exit ?_ | refine k_block ?_ | refine K_scope ?_ | (refine K_region (id := 5) ?_; refine mv ?_; refine KO_nil ?_) | (refine K_region (id := 6) ?_; refine mv ?_; (first | refine lnB S ?_ | refine lnS S rfl rfl ?_); refine mv ?_; refine KO_nil ?_)))
      refine k_loop (σ := Nat × List Bool × List Value × Value) (fun (k, dn, vs, vo) h' => Hs h0 h' [.sl vd 4 1 eB dn, .sl vo 23 1 eV vs, .any (LLs vs (blksPre N n f k))] ∧ k ≤ n ∧ dn.length = n ∧ vs.length ≤ k ∧ ∀ m, m < n → (dn.getD m default = true ↔ ∃ k', k' < k ∧ Rch N n k' m)) (fun (k, dn, vs, vo) => n - k) (fun (k, dn, vs, vo) => [(0, v), (1, .int .i64 i), (5, .int .i64 f), (6, vd), (7, vo), (35, .int .i64 n), (36, .int .i64 k)]) (0, List.replicate n false, [], .slice none 0 0) (by repeat (first | exact Ks.le_nil _ | refine Ks.le_cons rfl ?_ | refine Ks.le_int ?_)) ?_ ?_
      · refine ⟨?_, Nat.zero_le _, by simp, by simp, fun m hm => ⟨fun q => ?_, fun ⟨k', q, _⟩ => by omega⟩⟩
        · have S2 := (S.anyS (p := LLs [] (blksPre N n f 0)) fun h' => LLs.nil h' _).nilS (α := Value) (e := 23) (z := 1) (enc := eV)
          exact S2.front (.there (.there .here))
        · exfalso
          simp [List.getD_eq_getElem?_getD, List.getElem?_replicate, hm] at q
      clear S
      rintro ⟨k, dn, vs, vo⟩ h ⟨S, h1, h2, h3, h4⟩
      all_goals (repeat' (first | refine K_seq ?_ | refine k_cond rfl ?_ | refine K_skip ?_ | refine K_exit ?_ | refine k_block ?_ | refine K_scope ?_ | (refine K_region (id := 7) ?_; (first | refine cT ?_ | refine cF ?_ | (refine cS ?_ ?_ <;> intro hc)) <;> (refine KO_nil ?_)) | (refine K_region (id := 8) ?_; refine mv ?_; refine mv ?_; refine KO_nil ?_)))
      · have hk : k < n := by omega
        have h4k := h4 k hk
        (repeat (refine K_seq ?_)); refine K_region (id := 9) ?_; refine mv ?_; refine mv ?_; (first | refine ixB S ?_ | refine ixS2 S rfl rfl ?_); (first | refine lB S rfl rfl ?_ | refine lES2 S rfl rfl ?_ | refine lEB S ?_ | refine lH S ?_); refine KO_nil ?_
        refine K_cond2 rfl ?_ ?_ <;> intro hb <;> simp only [Int.toNat_natCast] at hb
        rotate_left
        · rw [hb] at h4k
          have hleast : leastP N n k := fun m hm hr => Nat.le_of_not_lt fun q => by
            have := h4k.2 ⟨m, q, hr.symm hsym hk hm⟩
            cases this
          all_goals (repeat' (first | refine K_seq ?_ | refine k_cond rfl ?_ | refine K_skip ?_ | refine K_exit ?_ | refine k_block ?_ | refine K_scope ?_ | (refine K_region (id := 10) ?_; refine mv ?_; refine KO_nil ?_) | (refine K_region (id := 11) ?_; refine mv ?_; refine mv ?_; (first | refine ixB S ?_ | refine ixS2 S rfl rfl ?_); (first | refine lB S rfl rfl ?_ | refine lES2 S rfl rfl ?_ | refine lEB S ?_ | refine lH S ?_); refine mv ?_)))
          (refine KO_fn rfl rfl rfl rfl rfl ((steps_ok S.wf (tb l i) k n hts.b hn (by omega) hk).mono ?_); rintro vdi h ⟨dl, hdl, x⟩) <;> (replace S := S.join1 x; clear x; (first | refine lnB S ?_ | refine lnS S rfl rfl ?_); refine mv ?_; refine KO_nil ?_)
          rw [← hN] at hdl
          have hdlen := hdl.1
          all_goals (repeat' (first | refine K_seq ?_ | refine k_cond rfl ?_ | refine K_skip ?_ | refine K_exit ?_ | refine k_block ?_ | refine K_scope ?_ | (refine K_region (id := 7) ?_; (first | refine cT ?_ | refine cF ?_ | (refine cS ?_ ?_ <;> intro hc)) <;> (refine KO_nil ?_)) | (refine K_region (id := 8) ?_; refine mv ?_; refine mv ?_; refine KO_nil ?_) | (refine K_region (id := 9) ?_; refine mv ?_; refine mv ?_; (first | refine ixB S ?_ | refine ixS2 S rfl rfl ?_); (first | refine lB S rfl rfl ?_ | refine lES2 S rfl rfl ?_ | refine lEB S ?_ | refine lH S ?_); refine KO_nil ?_) | (refine K_region (id := 10) ?_; refine mv ?_; refine KO_nil ?_) | (refine K_region (id := 11) ?_; refine mv ?_; refine mv ?_; (first | refine ixB S ?_ | refine ixS2 S rfl rfl ?_); (first | refine lB S rfl rfl ?_ | refine lES2 S rfl rfl ?_ | refine lEB S ?_ | refine lH S ?_); refine mv ?_) | (refine K_region (id := 19) ?_; (first | refine ad ?_ | refine vl ?_); refine mv ?_; refine KO_nil ?_) | (refine K_region (id := 20) ?_; refine mv ?_; refine mv ?_; refine KO_nil ?_)))
          refine k_loop (σ := Nat × List Bool × Value) (fun (m, d2, vb) h' => Hs h0 h' [.sl vb 3 1 eI (blkPre N n f k m), .sl vdi 3 1 eI dl, .sl vd 4 1 eB d2, .sl vo 23 1 eV vs, .any (LLs vs (blksPre N n f k))] ∧ m ≤ n ∧ d2.length = n ∧ ∀ y, y < n → (d2.getD y default = true ↔ dn.getD y default = true ∨ (y < m ∧ Rch N n k y))) (fun (m, d2, vb) => n - m) (fun (m, d2, vb) => [(0, v), (1, .int .i64 i), (5, .int .i64 f), (6, vd), (7, vo), (8, .int .i64 k), (9, vb), (35, .int .i64 n), (36, .int .i64 k), (48, vdi), (49, .int .i64 n), (50, .int .i64 m)]) (0, dn, .slice none 0 0) (by repeat (first | exact Ks.le_nil _ | refine Ks.le_cons rfl ?_ | refine Ks.le_int ?_)) ?_ ?_
          · exact ⟨S.nilS, Nat.zero_le _, h2, fun y hy => ⟨.inl, fun q => q.elim id fun q => by omega⟩⟩
          clear S
          rintro ⟨m, d2, vb⟩ h ⟨S, g1, g2, g3⟩
          obtain ⟨sb, rfl⟩ := (Rd.of_sl S .here).isSl
          have hbl := blkPre_len (N := N) (n := n) f k m
          all_goals (repeat' (first | refine K_seq ?_ | refine k_cond rfl ?_ | refine K_skip ?_ | refine K_exit ?_ | refine k_block ?_ | refine K_scope ?_ | (refine K_region (id := 12) ?_; (first | refine cT ?_ | refine cF ?_ | (refine cS ?_ ?_ <;> intro hc)) <;> (refine KO_nil ?_)) | (refine K_region (id := 13) ?_; refine mv ?_; (first | refine ixB S ?_ | refine ixS2 S rfl rfl ?_); (first | refine lB S rfl rfl ?_ | refine lES2 S rfl rfl ?_ | refine lEB S ?_ | refine lH S ?_); refine mv ?_; refine mv ?_; refine KO_nil ?_) | (refine K_region (id := 14) ?_; refine mv ?_; (first | refine cT ?_ | refine cF ?_ | (refine cS ?_ ?_ <;> intro hc)) <;> (refine KO_nil ?_)) | (refine K_region (id := 15) ?_; refine mv ?_; refine mv ?_; (first | refine ixB S ?_ | refine ixS2 S rfl rfl ?_); (first | (refine sB S rfl rfl ?_; clear S; intro h S) | (refine sE2 S rfl rfl ?_; clear S; intro h S)); refine KO_nil ?_) | (refine K_region (id := 16) ?_; refine mv ?_; refine mv ?_; refine mv ?_; (first | refine ad ?_ | refine vl ?_); (refine one 1 S ?_; clear S; intro u h S)) | (refine K_region (id := 17) ?_; (first | refine ad ?_ | refine vl ?_); refine mv ?_; refine KO_nil ?_) | (refine K_region (id := 18) ?_; refine mv ?_; refine mv ?_; (refine one 1 S ?_; clear S; intro u h S))))
          · simp only [Int.toNat_natCast] at hc S
            have hm : m < n := by omega
            have hrc := (hdl.rch hm).1 (by assumption)
            refine app  S rfl rfl ?_; clear S; intro v h S; refine mv ?_; refine KO_nil ?_
            all_goals (repeat' (first | refine K_seq ?_ | refine k_cond rfl ?_ | refine K_skip ?_ | refine K_exit ?_ | refine k_block ?_ | refine K_scope ?_ | (refine K_region (id := 17) ?_; (first | refine ad ?_ | refine vl ?_); refine mv ?_; refine KO_nil ?_)))
            refine ⟨(m + 1, d2.set m true, v), ?_, ?_, (by repeat (first | exact Ks.le_nil _ | refine Ks.le_cons rfl ?_ | refine Ks.le_int ?_))⟩
            · show n - (m + 1) < n - m; omega
            · refine ⟨?_, by omega, by simpa using g2, fun y hy => ?_⟩
              · have e : blkPre N n f k (m + 1) = blkPre N n f k m ++ [f + (m : Int)] := by rw [blkPre, if_pos hrc]
                rw [e]; exact S
              · rw [getD_set _ _ (by omega)]
                split
                · rename_i e; subst e; exact ⟨fun _ => .inr ⟨by omega, hrc⟩, fun _ => rfl⟩
                · rw [g3 y hy]
                  exact ⟨fun q => q.imp id fun q => ⟨by omega, q.2⟩, fun q => q.imp id fun q => ⟨by omega, q.2⟩⟩
          · (try simp only [Int.toNat_natCast] at hc)
            have hm : m < n := by omega
            have hrc : ¬ Rch N n k m := fun q => hc ((hdl.rch hm).2 q)
            refine ⟨(m + 1, d2, sb.val), ?_, ?_, (by repeat (first | exact Ks.le_nil _ | refine Ks.le_cons rfl ?_ | refine Ks.le_int ?_))⟩
            · show n - (m + 1) < n - m; omega
            · refine ⟨?_, by omega, g2, fun y hy => ?_⟩
              · have e : blkPre N n f k (m + 1) = blkPre N n f k m := by rw [blkPre, if_neg hrc]
                rw [e]; exact S
              · rw [g3 y hy]
                refine ⟨fun q => q.imp id fun q => ⟨by omega, q.2⟩, fun q => q.imp id fun q => ⟨?_, q.2⟩⟩
                rcases Nat.lt_or_ge y m with a | a
                · exact a
                · obtain rfl : y = m := by omega
                  exact absurd q.2 hrc
          · obtain rfl : m = n := by omega
            refine app  S rfl rfl ?_; clear S; intro v h S; refine mv ?_; refine KO_nil ?_
            all_goals (repeat' (first | refine K_seq ?_ | refine k_cond rfl ?_ | refine K_skip ?_ | refine K_exit ?_ | refine k_block ?_ | refine K_scope ?_ | (refine K_region (id := 19) ?_; (first | refine ad ?_ | refine vl ?_); refine mv ?_; refine KO_nil ?_)))
            refine ⟨(k + 1, d2, vs ++ [sb.val], v), ?_, ?_, (by repeat (first | exact Ks.le_nil _ | refine Ks.le_cons rfl ?_ | refine Ks.le_int ?_))⟩
            · show m - (k + 1) < m - k; omega
            · refine ⟨?_, by omega, g2, by simp; omega, fun y hy => ?_⟩
              · have e : blksPre N m f (k + 1) = blksPre N m f k ++ [blkPre N m f k m] := by rw [blksPre, if_pos hleast]
                rw [e]
                have S := ((S.del (.there (.there .here))).front (.there (.there (.there .here)))).front (.there (.there .here))
                exact ((S.pushLL).front (.there .here)).front (.there (.there .here))
              · rw [g3 y hy, h4 y hy]
                constructor
                · rintro (⟨k', q1, q2⟩ | ⟨q1, q2⟩)
                  · exact ⟨k', by omega, q2⟩
                  · exact ⟨k, by omega, q2⟩
                · rintro ⟨k', q1, q2⟩
                  rcases Nat.lt_or_ge k' k with a | a
                  · exact .inl ⟨k', a, q2⟩
                  · obtain rfl : k' = k := by omega
                    exact .inr ⟨hy, q2⟩
        · rw [hb] at h4k
          obtain ⟨k0, q1, q2⟩ := h4k.1 rfl
          have hnl : ¬ leastP N n k := fun q => by have := q k0 (by omega) (q2.symm hsym (by omega) hk); omega
          all_goals (repeat' (first | refine K_seq ?_ | refine k_cond rfl ?_ | refine K_skip ?_ | refine K_exit ?_ | refine k_block ?_ | refine K_scope ?_ | (refine K_region (id := 19) ?_; (first | refine ad ?_ | refine vl ?_); refine mv ?_; refine KO_nil ?_)))
          refine ⟨(k + 1, dn, vs, vo), ?_, ?_, (by repeat (first | exact Ks.le_nil _ | refine Ks.le_cons rfl ?_ | refine Ks.le_int ?_))⟩
          · show n - (k + 1) < n - k; omega
          · refine ⟨?_, by omega, h2, by omega, fun y hy => ?_⟩
            · have e : blksPre N n f (k + 1) = blksPre N n f k := by rw [blksPre, if_neg hnl]
              rw [e]; exact S
            · rw [h4 y hy]
              constructor
              · rintro ⟨k', a, b⟩; exact ⟨k', by omega, b⟩
              · rintro ⟨k', a, b⟩
                rcases Nat.lt_or_ge k' k with a2 | a2
                · exact ⟨k', a2, b⟩
                · obtain rfl : k' = k := by omega
                  exact ⟨k0, q1, q2.trans b⟩
      · obtain rfl : k = n := by omega
        all_goals (repeat' (first | refine K_seq ?_ | refine k_cond rfl ?_ | refine K_skip ?_ | refine K_exit ?_ | refine k_block ?_ | refine K_scope ?_ | (refine K_region (id := 20) ?_; refine mv ?_; refine mv ?_; refine KO_nil ?_)))
        refine K_ret ⟨_, rfl, ?_⟩
        exact ⟨_, .inl ⟨i, k, rfl, hi, hq, hn, rfl⟩, by rw [← hf, ← hN]; exact RLL.of S (.there .here) (.there (.there .here)), S.drop⟩
    · refine K_ret ⟨_, rfl, ?_⟩
      exact ⟨[], .inr ⟨fun q => hq q.2.2, rfl⟩, .nil, S⟩

end Go.Proofs.Xx

/-
  The distance is a metric; blocks part the places.
-/
namespace Go.Proofs.Xx
set_option linter.unusedVariables false

section
variable {N : Int → Int → Prop} {n : Nat}
/-- The distance, 99 where there is no way. -/
def FarIs (N : Int → Int → Prop) (n x y : Nat) (v : Int) : Prop := (∃ e : Nat, IsDist N n x e y ∧ v = e) ∨ (v = 99 ∧ ∀ e, ¬ Wk N n x e y)
theorem FarIs.unique {x y : Nat} {v v' : Int} (h : FarIs N n x y v) (g : FarIs N n x y v') : v = v' := by
  rcases h with ⟨e, h1, h2⟩ | ⟨h1, h2⟩ <;> rcases g with ⟨e', g1, g2⟩ | ⟨g1, g2⟩
  · have := h1.unique g1; omega
  · exact absurd h1.1 (g2 e)
  · exact absurd g1.1 (h2 e')
  · omega
theorem IsDist.symm (hN : ∀ x y, N x y → N y x) {x y e : Nat} (hx : x < n) (hy : y < n) (h : IsDist N n x e y) : IsDist N n y e x :=
  ⟨h.1.symm hN hx hy, fun d hd w => h.2 d hd (w.symm hN hy hx)⟩
theorem FarIs.symm (hN : ∀ x y, N x y → N y x) {x y : Nat} {v : Int} (hx : x < n) (hy : y < n) (h : FarIs N n x y v) : FarIs N n y x v := by
  rcases h with ⟨e, h1, h2⟩ | ⟨h1, h2⟩
  · exact .inl ⟨e, h1.symm hN hx hy, h2⟩
  · exact .inr ⟨h1, fun e w => h2 e (w.symm hN hy hx)⟩
theorem FarIs.lt {x y : Nat} {v : Int} (hx : x < n) (hy : y < n) (hn : n ≤ 24) (h : FarIs N n x y v) : v < 99 ↔ ∃ e, Wk N n x e y := by
  rcases h with ⟨e, h1, h2⟩ | ⟨h1, h2⟩
  · have := h1.lt hx hy
    exact ⟨fun _ => ⟨e, h1.1⟩, fun _ => by omega⟩
  · exact ⟨fun q => by omega, fun ⟨e, q⟩ => absurd q (h2 e)⟩
theorem FarIs.nonneg {x y : Nat} {v : Int} (h : FarIs N n x y v) : 0 ≤ v := by
  rcases h with ⟨e, h1, h2⟩ | ⟨h1, h2⟩ <;> omega
theorem FarIs.tri {x y z : Nat} {a b c : Int} (hx : x < n) (hy : y < n) (hz : z < n) (hn : n ≤ 24) (h : FarIs N n x y a) (g : FarIs N n y z b) (k : FarIs N n x z c) (ha : a < 99) (hb : b < 99) : c ≤ a + b := by
  rcases h with ⟨e, h1, h2⟩ | ⟨h1, h2⟩
  · rcases g with ⟨e', g1, g2⟩ | ⟨g1, g2⟩
    · have w := h1.1.trans g1.1
      rcases k with ⟨d, k1, k2⟩ | ⟨k1, k2⟩
      · have : d ≤ e + e' := Nat.le_of_not_lt fun q => k1.2 _ q w
        omega
      · exact absurd w (k2 _)
    · omega
  · omega
theorem FarIs.zero {x y : Nat} {v : Int} (h : FarIs N n x y v) : v = 0 ↔ x = y := by
  rcases h with ⟨e, h1, h2⟩ | ⟨h1, h2⟩
  · constructor
    · intro q
      have : e = 0 := by omega
      subst this; exact (show y = x from h1.1).symm
    · intro q
      subst q
      rcases Nat.eq_zero_or_pos e with q | q
      · omega
      · exact absurd rfl (h1.2 0 q)
  · exact ⟨fun q => by omega, fun q => by subst q; exact absurd rfl (h2 0)⟩
theorem FarIs.one {x y : Nat} {v : Int} (hx : x < n) (hI : ∀ x, ¬ N x x) (h : FarIs N n x y v) : v = 1 ↔ N x y := by
  have w1 : N x y → Wk N n x 1 y := fun q => ⟨x, hx, rfl, q⟩
  have back : Wk N n x 1 y → N x y := fun ⟨z, hz, e, q⟩ => by
    have : z = x := e
    subst this; exact q
  rcases h with ⟨e, h1, h2⟩ | ⟨h1, h2⟩
  · constructor
    · intro q
      have : e = 1 := by omega
      subst this; exact back h1.1
    · intro q
      have le : e ≤ 1 := Nat.le_of_not_lt fun z => h1.2 1 z (w1 q)
      rcases Nat.eq_zero_or_pos e with z | z
      · subst z
        have : y = x := h1.1
        subst this; exact absurd q (hI _)
      · omega
  · exact ⟨fun q => by omega, fun q => absurd (w1 q) (h2 1)⟩

/-! ### counting -/
open Classical in
noncomputable def cnt (p : Nat → Prop) : Nat → Nat
  | 0 => 0
  | m + 1 => cnt p m + (if p m then 1 else 0)
theorem cnt_all {p : Nat → Prop} : ∀ m, (∀ k, k < m → p k) → cnt p m = m
  | 0, _ => rfl
  | m + 1, h => by rw [cnt, cnt_all m (fun k hk => h k (by omega)), if_pos (h m (by omega))]
theorem cnt_none {p : Nat → Prop} : ∀ m, (∀ k, k < m → ¬ p k) → cnt p m = 0
  | 0, _ => rfl
  | m + 1, h => by rw [cnt, cnt_none m (fun k hk => h k (by omega)), if_neg (h m (by omega))]
theorem cnt_congr {p q : Nat → Prop} : ∀ m, (∀ k, k < m → (p k ↔ q k)) → cnt p m = cnt q m
  | 0, _ => rfl
  | m + 1, h => by
    rw [cnt, cnt, cnt_congr m (fun k hk => h k (by omega))]
    congr 1
    have := h m (by omega)
    by_cases e : p m
    · rw [if_pos e, if_pos (this.1 e)]
    · rw [if_neg e, if_neg (fun z => e (this.2 z))]
theorem cnt_or {p q : Nat → Prop} : ∀ m, (∀ k, k < m → ¬ (p k ∧ q k)) → cnt (fun k => p k ∨ q k) m = cnt p m + cnt q m
  | 0, _ => rfl
  | m + 1, h => by
    rw [cnt, cnt, cnt, cnt_or m (fun k hk => h k (by omega))]
    have := h m (by omega)
    by_cases e1 : p m
    · have e2 : ¬ q m := fun z => this ⟨e1, z⟩
      rw [if_pos (.inl e1), if_pos e1, if_neg e2]; omega
    · by_cases e2 : q m
      · rw [if_pos (.inr e2), if_neg e1, if_pos e2]; omega
      · rw [if_neg (fun z => z.elim e1 e2), if_neg e1, if_neg e2]; omega
theorem blkPre_cnt (f : Int) (k : Nat) : ∀ m, (blkPre N n f k m).length = cnt (fun y => Rch N n k y) m
  | 0 => rfl
  | m + 1 => by
    rw [cnt, ← blkPre_cnt f k m]
    by_cases q : Rch N n k m
    · rw [if_pos q, blkPre, if_pos q]; simp
    · rw [if_neg q, blkPre, if_neg q]; simp
/-- How many places the first K blocks have together. -/
noncomputable def sumL : List (List Int) → Nat
  | [] => 0
  | b :: bs => b.length + sumL bs
theorem sumL_snoc (b : List Int) : ∀ bs : List (List Int), sumL (bs ++ [b]) = sumL bs + b.length
  | [] => by simp [sumL]
  | x :: bs => by simp only [List.cons_append, sumL, sumL_snoc b bs]; omega
theorem blks_sum (hN : ∀ x y, N x y → N y x) (f : Int) : ∀ K, K ≤ n → sumL (blksPre N n f K) = cnt (fun m => ∃ k, k < K ∧ Rch N n k m) n
  | 0, _ => by rw [cnt_none n (fun k hk ⟨j, q, _⟩ => by omega)]; rfl
  | K + 1, h => by
    have ih := blks_sum hN f K (by omega)
    unfold blksPre
    split
    · rename_i hl
      rw [sumL_snoc, ih, blkPre_cnt, ← cnt_or]
      · refine cnt_congr n fun m hm => ⟨fun q => ?_, fun ⟨k, q1, q2⟩ => ?_⟩
        · rcases q with ⟨k, q1, q2⟩ | q
          · exact ⟨k, by omega, q2⟩
          · exact ⟨K, by omega, q⟩
        · rcases Nat.lt_or_ge k K with z | z
          · exact .inl ⟨k, z, q2⟩
          · have : k = K := by omega
            subst this; exact .inr q2
      · rintro m hm ⟨⟨k, q1, q2⟩, q3⟩
        have := hl k (by omega) (q3.trans (q2.symm hN (by omega) hm))
        omega
    · rename_i hl
      rw [ih]
      refine cnt_congr n fun m hm => ⟨fun ⟨k, q1, q2⟩ => ⟨k, by omega, q2⟩, fun ⟨k, q1, q2⟩ => ?_⟩
      rcases Nat.lt_or_ge k K with z | z
      · exact ⟨k, z, q2⟩
      · have e : k = K := by omega
        subst e
        have : ∃ k0, k0 < k ∧ Rch N n k k0 := by
          refine Classical.byContradiction fun q => hl fun m' hm' hr => Nat.le_of_not_lt fun z => q ⟨m', z, hr⟩
        obtain ⟨k0, z1, z2⟩ := this
        exact ⟨k0, z1, (z2.symm hN (by omega) (by omega)).trans q2⟩
theorem blks_all (hN : ∀ x y, N x y → N y x) (f : Int) : sumL (blksPre N n f n) = n := by
  rw [blks_sum hN f n (Nat.le_refl _)]
  exact cnt_all n fun m hm => ⟨m, hm, Rch.refl m⟩
theorem blks_mem (f : Int) : ∀ (K : Nat) (b : List Int), b ∈ blksPre N n f K → ∃ k, k < K ∧ b = blkPre N n f k n
  | 0, b, h => by simp [blksPre] at h
  | K + 1, b, h => by
    unfold blksPre at h
    split at h
    · rcases List.mem_append.1 h with h | h
      · obtain ⟨k, q1, q2⟩ := blks_mem f K b h
        exact ⟨k, by omega, q2⟩
      · rw [List.mem_singleton] at h
        exact ⟨K, by omega, h⟩
    · obtain ⟨k, q1, q2⟩ := blks_mem f K b h
      exact ⟨k, by omega, q2⟩
theorem blkPre_inc (f : Int) (k : Nat) : ∀ m, (blkPre N n f k m).Pairwise (· < ·)
  | 0 => by simp [blkPre]
  | m + 1 => by
    have ih := blkPre_inc f k m
    unfold blkPre
    split
    · refine List.pairwise_append.2 ⟨ih, by simp, fun a ha b hb => ?_⟩
      obtain ⟨j, q1, q2, q3⟩ := (blkPre_mem f k m a).1 ha
      rw [List.mem_singleton] at hb
      omega
    · exact ih
end
end Go.Proofs.Xx
