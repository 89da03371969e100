/-
  The turns of a table are a group.
-/
import Derived.Test.YtnopenpheaihmaaGreatDoorM14
import Derived.Test.YtnopenpheaihmaaGreatDoorM10

namespace Go.Proofs.Xx
open Go Go.Proofs
set_option linter.unusedSimpArgs false
set_option linter.unusedVariables false

abbrev InB (t : Tab) (k : Int) : Prop := 0 ≤ k ∧ k < tsize t
/-- A function of the seats keeps the table. -/
def KeepF (t : Tab) (f : Int → Int) : Prop := ∀ k, InB t k → (openP t k ↔ openP t (f k)) ∧ ∀ m, InB t m → (besideP t k m ↔ besideP t (f k) (f m)) ∧ (acrossP t k m ↔ acrossP t (f k) (f m))
theorem besideP_self (t : Tab) (k : Int) : ¬ besideP t k k := fun h => h.1 rfl
theorem acrossP_self (t : Tab) (k : Int) : ¬ acrossP t k k := fun h => h.1 rfl
theorem keepP_iff {t : Tab} {p : List Int} {f : Int → Int} (hl : p.length = (tsize t).toNat) (e : ∀ k : Nat, k < p.length → pAt p k = f k) : KeepP t p ↔ KeepF t f := by
  constructor
  · intro h
    have H : ∀ a b : Nat, a < p.length → b < p.length → (besideP t a b ↔ besideP t (f a) (f b)) ∧ (acrossP t a b ↔ acrossP t (f a) (f b)) := by
      intro a b ha hb
      rcases Nat.lt_trichotomy a b with q | rfl | q
      · have := (h b hb).2 a q
        unfold KeepM at this
        rw [e a ha, e b hb] at this
        exact ⟨(besideP_symm t _ _).trans (this.1.trans (besideP_symm t _ _)), (acrossP_symm t _ _).trans (this.2.trans (acrossP_symm t _ _))⟩
      · exact ⟨⟨fun z => absurd z (besideP_self t _), fun z => absurd z (besideP_self t _)⟩, ⟨fun z => absurd z (acrossP_self t _), fun z => absurd z (acrossP_self t _)⟩⟩
      · have := (h a ha).2 b q
        unfold KeepM at this
        rw [e a ha, e b hb] at this
        exact this
    intro k hk
    obtain ⟨k, rfl⟩ := Int.eq_ofNat_of_zero_le hk.1
    have hk' : k < p.length := by have := hk.2; omega
    have h1 := (h k hk').1
    rw [e k hk'] at h1
    refine ⟨h1, fun m hm => ?_⟩
    obtain ⟨m, rfl⟩ := Int.eq_ofNat_of_zero_le hm.1
    exact H k m hk' (by have := hm.2; omega)
  · intro h k hk
    have i : InB t k := ⟨by omega, by omega⟩
    refine ⟨by rw [e k hk]; exact (h k i).1, fun m hm => ?_⟩
    unfold KeepM
    rw [e k hk, e m (by omega)]
    exact (h k i).2 m ⟨by omega, by omega⟩
section
variable {t : Tab}
theorem KeepF.mul {f g : Int → Int} (hf : KeepF t f) (hg : KeepF t g) (b : ∀ k, InB t k → InB t (g k)) : KeepF t fun k => f (g k) := fun k hk =>
  ⟨(hg k hk).1.trans (hf _ (b k hk)).1, fun m hm => ⟨((hg k hk).2 m hm).1.trans ((hf _ (b k hk)).2 _ (b m hm)).1, ((hg k hk).2 m hm).2.trans ((hf _ (b k hk)).2 _ (b m hm)).2⟩⟩
theorem KeepF.congr {f g : Int → Int} (hf : KeepF t f) (e : ∀ k, InB t k → f k = g k) : KeepF t g := fun k hk =>
  ⟨by rw [← e k hk]; exact (hf k hk).1, fun m hm => by rw [← e k hk, ← e m hm]; exact (hf k hk).2 m hm⟩
theorem KeepF.one : KeepF t fun k => k := fun k hk => ⟨Iff.rfl, fun m hm => ⟨Iff.rfl, Iff.rfl⟩⟩
theorem acc_iff {st : List Int} (hst : StOk t st) {j : Nat} : acc t st j ↔ KeepF t (mvg t j) ∧ ∀ x, x ∈ st → mvg t j x = x := by
  unfold acc
  rw [keepP_iff (cand_len t j) fun k hk => cand_at (by rw [cand_len] at hk; exact hk)]
  refine and_congr Iff.rfl ⟨fun h x hx => ?_, fun h x hx => ?_⟩
  all_goals
    have b := hst x hx
    have := h x hx
    have e := cand_at (t := t) (j := j) (k := x.toNat) (by omega)
    rw [show ((x.toNat : Nat) : Int) = x by omega] at e
  · rw [← e]; exact this
  · rw [e]; exact this
theorem stOk_nil : StOk t [] := fun x hx => by cases hx
/-- A turn. -/
def Trn (t : Tab) (p : List Int) : Prop := ∃ j, j < mvn t ∧ KeepF t (mvg t j) ∧ p = cand t j
theorem acc_nil {j : Nat} : acc t [] j ↔ KeepF t (mvg t j) := (acc_iff stOk_nil).trans ⟨fun h => h.1, fun h => ⟨h, fun x hx => by cases hx⟩⟩
theorem TurnL.trn {ls : List (List Int)} (H : TurnL t [] ls) (p : List Int) : p ∈ ls ↔ Trn t p :=
  (H.mem p).trans (exists_congr fun j => and_congr Iff.rfl (and_congr acc_nil Iff.rfl))
theorem Trn.len {p : List Int} (h : Trn t p) : p.length = (tsize t).toNat := by
  obtain ⟨j, -, -, rfl⟩ := h
  exact cand_len t j
theorem mvg_in (hs : TabS t) {j : Nat} (hj : j < mvn t) (k : Int) (hk : InB t k) : InB t (mvg t j k) := mvg_b hs hj hk
theorem Trn.bnd (hs : TabS t) {p : List Int} (h : Trn t p) {k : Nat} (hk : k < (tsize t).toNat) : 0 ≤ pAt p k ∧ pAt p k < tsize t := by
  obtain ⟨j, hj, -, rfl⟩ := h
  exact cand_b hs hj hk
theorem nums_len (n : Nat) : (nums n).length = n := by simp [nums]
theorem nums_at {n k : Nat} (h : k < n) : pAt (nums n) k = k := by simp [nums, pAt, List.getD_eq_getElem?_getD, h]
theorem cand_zero (hs : TabS t) : cand t 0 = nums (tsize t).toNat := by
  refine (cand_is (nums_len _) fun k hk => ?_).symm
  rw [nums_at hk, mvg_one hs ⟨by omega, by omega⟩]
theorem Trn.one (hs : TabS t) : Trn t (nums (tsize t).toNat) := ⟨0, by have := mvn_pos hs; omega, KeepF.one.congr fun k hk => (mvg_one hs hk).symm, (cand_zero hs).symm⟩
theorem compose_at {p q : List Int} {k : Nat} (h : k < q.length) : pAt (compose p q) k = pAt p (pAt q k).toNat := by
  simp [compose, pAt, List.getD_eq_getElem?_getD, h]
theorem compose_cand (hs : TabS t) {i j m : Nat} (hj : j < mvn t) (e : ∀ k, 0 ≤ k → k < tsize t → mvg t i (mvg t j k) = mvg t m k) : compose (cand t i) (cand t j) = cand t m := by
  refine cand_is (by simp [compose, cand_len]) fun k hk => ?_
  have b := mvg_b hs hj (k := k) ⟨by omega, by omega⟩
  have e1 := cand_at (t := t) (j := i) (k := (mvg t j k).toNat) (by omega)
  rw [compose_at (by rw [cand_len]; exact hk), cand_at hk, e1, ← e k (by omega) (by omega), show (((mvg t j k).toNat : Nat) : Int) = mvg t j k by omega]
theorem Trn.mul (hs : TabS t) {p q : List Int} (hp : Trn t p) (hq : Trn t q) : Trn t (compose p q) := by
  obtain ⟨i, hi, ki, rfl⟩ := hp
  obtain ⟨j, hj, kj, rfl⟩ := hq
  obtain ⟨m, hm, e⟩ := mvg_mul hs hi hj
  exact ⟨m, hm, (ki.mul kj (mvg_in hs hj)).congr fun k hk => e k hk.1 hk.2, compose_cand hs hj e⟩
theorem cand_inj (hs : TabS t) {j : Nat} (hj : j < mvn t) {x y : Int} (hx : InB t x) (hy : InB t y) (e : mvg t j x = mvg t j y) : x = y := by
  obtain ⟨m, hm, h⟩ := mvg_inv hs hj
  rw [← (h x hx.1 hx.2).2, ← (h y hy.1 hy.2).2, e]
theorem cand_nodup (hs : TabS t) {j : Nat} (hj : j < mvn t) : (cand t j).Nodup := by
  refine nodup_map List.nodup_range fun x y hx hy e => ?_
  rw [List.mem_range] at hx hy
  have := cand_inj hs hj (x := (x : Nat)) (y := (y : Nat)) ⟨by omega, by omega⟩ ⟨by omega, by omega⟩ e
  omega
theorem mem_pAt {p : List Int} {x : Int} : x ∈ p ↔ ∃ k, k < p.length ∧ pAt p k = x := by
  rw [List.mem_iff_getElem]
  constructor
  · rintro ⟨k, hk, rfl⟩; exact ⟨k, hk, by simp [pAt, List.getD_eq_getElem?_getD, hk]⟩
  · rintro ⟨k, hk, rfl⟩; exact ⟨k, hk, by simp [pAt, List.getD_eq_getElem?_getD, hk]⟩
theorem cand_perm (hs : TabS t) {j : Nat} (hj : j < mvn t) : permOk (cand t j) = true := by
  refine decide_eq_true ⟨fun x hx => ?_, cand_nodup hs hj⟩
  obtain ⟨k, hk, rfl⟩ := mem_pAt.1 hx
  rw [cand_len] at hk ⊢
  have := cand_b hs hj hk
  omega
theorem Trn.perm (hs : TabS t) {p : List Int} (h : Trn t p) : permOk p = true := by
  obtain ⟨j, hj, -, rfl⟩ := h
  exact cand_perm hs hj
abbrev invT (p : List Int) : List Int := invTo p p.length
theorem Trn.one_mul (hs : TabS t) {p : List Int} (h : Trn t p) : compose (nums (tsize t).toNat) p = p := by
  refine ext_pAt (by simp [compose]) fun k hk => ?_
  rw [show (compose (nums (tsize t).toNat) p).length = p.length by simp [compose], h.len] at hk
  have b := h.bnd hs hk
  rw [compose_at (by rw [h.len]; exact hk), nums_at (by omega)]
  omega
/-! the identity is the first -/
def numsF : Nat → Int → List Int
  | 0, _ => []
  | n + 1, s => s :: numsF n (s + 1)
theorem numsF_len : ∀ n s, (numsF n s).length = n
  | 0, _ => rfl
  | n + 1, s => by simp [numsF, numsF_len n]
theorem numsF_at : ∀ n s k, k < n → pAt (numsF n s) k = s + k
  | n + 1, s, 0, _ => by simp [numsF, pAt]
  | n + 1, s, k + 1, h => by
    have := numsF_at n (s + 1) k (by omega)
    simp only [pAt, numsF, List.getD_cons_succ] at this ⊢
    rw [this]; omega
theorem nums_eq (n : Nat) : nums n = numsF n 0 := ext_pAt (by rw [nums_len, numsF_len]) fun k hk => by
  rw [nums_len] at hk
  rw [nums_at hk, numsF_at n 0 k hk]; omega
theorem numsF_least : ∀ (l : List Int) (s : Int), l.Nodup → (∀ x, x ∈ l → s ≤ x) → ¬ ltL l (numsF l.length s)
  | [], _, _, _ => fun h => h
  | a :: l, s, nd, b => by
    rw [List.nodup_cons] at nd
    rintro (h | ⟨rfl, h⟩)
    · have := b a (.head _); omega
    · refine numsF_least l (a + 1) nd.2 (fun x hx => ?_) h
      have := b x (.tail _ hx)
      have : x ≠ a := fun q => nd.1 (by rw [← q]; exact hx)
      omega
theorem Trn.least (hs : TabS t) {p : List Int} (h : Trn t p) : ¬ ltL p (nums (tsize t).toNat) := by
  have hp := of_decide_eq_true (h.perm hs)
  have := numsF_least p 0 hp.2 fun x hx => (hp.1 x hx).1
  rw [h.len, ← nums_eq] at this
  exact this
/-- The first turn is the identity. -/
theorem TurnL.first (hs : TabS t) {p : List Int} {ls : List (List Int)} (H : TurnL t [] (p :: ls)) : p = nums (tsize t).toNat := by
  have T := H.trn
  have h1 := (T _).2 (Trn.one hs)
  rcases List.mem_cons.1 h1 with q | q
  · exact q.symm
  · exact absurd ((List.pairwise_cons.1 H.srt).1 _ q) (((T p).1 (.head _)).least hs)
end
end Go.Proofs.Xx

/-
  The reference's mirrored spots are the program's moves.
-/
namespace Go.Proofs.Xx
open Go Go.Proofs
set_option linter.unusedSimpArgs false
set_option linter.unusedVariables false

/-- The mirrored place of a spot. -/
def fX (c : Nat) (a x : Int) : Int := if c / 2 = 1 then a - 1 - x else x
def fY (c : Nat) (y : Int) : Int := if c % 2 = 1 then 2 - y else y
section
variable {a b k : Int}
theorem sp_cases (ha : 1 ≤ a) (hb : 0 ≤ b ∧ b ≤ 2) (hk : 0 ≤ k ∧ k < 2 * a + b) :
    (k < a ∧ spX a b k = k ∧ spY a b k = 0) ∨ (0 < b ∧ k = a ∧ spX a b k = a ∧ spY a b k = 1) ∨ (a + min b 1 ≤ k ∧ k < 2 * a + min b 1 ∧ spX a b k = 2 * a - 1 + min b 1 - k ∧ spY a b k = 2) ∨ (b = 2 ∧ k = 2 * a + 1 ∧ spX a b k = -1 ∧ spY a b k = 1) := by
  unfold spX spY
  repeat' split
  all_goals omega
theorem sp_inj (ha : 1 ≤ a) (hb : 0 ≤ b ∧ b ≤ 2) {k m : Int} (hk : 0 ≤ k ∧ k < 2 * a + b) (hm : 0 ≤ m ∧ m < 2 * a + b) (e1 : spX a b k = spX a b m) (e2 : spY a b k = spY a b m) : k = m := by
  have c1 := sp_cases ha hb hk
  have c2 := sp_cases ha hb hm
  omega
theorem sd_spot (ha : 1 ≤ a) (hb : 0 ≤ b ∧ b ≤ 2) (hk : 0 ≤ k ∧ k < 2 * a + b) : spX a b (sdF a b k) = spX a b k ∧ spY a b (sdF a b k) = 2 - spY a b k := by
  have c1 := sp_cases ha hb hk
  have c2 := sp_cases ha hb (sd_sd ha hb hk).2
  have e : (hdP a b k ∧ sdF a b k = k) ∨ (¬ hdP a b k ∧ sdF a b k = (a + min b 1) + a - 1 - k) := by
    unfold sdF; by_cases q : hdP a b k
    · exact .inl ⟨q, if_pos q⟩
    · exact .inr ⟨q, if_neg q⟩
  unfold hdP at e
  omega
theorem en_spot (ha : 1 ≤ a) (hb : b = 0 ∨ b = 2) (hk : 0 ≤ k ∧ k < 2 * a + b) : spX a b (enF a b k) = a - 1 - spX a b k ∧ spY a b (enF a b k) = spY a b k := by
  have hb2 : 0 ≤ b ∧ b ≤ 2 := by omega
  have c1 := sp_cases ha hb2 hk
  have c2 := sp_cases ha hb2 (en_en ha hb hk).2
  have e : (hdP a b k ∧ enF a b k = 3 * a + 1 - k) ∨ (¬ hdP a b k ∧ k < a ∧ enF a b k = a - 1 - k) ∨ (¬ hdP a b k ∧ ¬ k < a ∧ enF a b k = 2 * (a + min b 1) + a - 1 - k) := by
    unfold enF; by_cases q : hdP a b k
    · exact .inl ⟨q, if_pos q⟩
    · rw [if_neg q]
      by_cases z : k < a
      · exact .inr (.inl ⟨q, z, if_pos z⟩)
      · exact .inr (.inr ⟨q, z, if_neg z⟩)
  unfold hdP at e
  omega
end
section
variable {t : Tab}
theorem mvg_spot (hs : TabS t) (q : t.shape = 2) {c : Nat} (hc : c < mvn t) {k : Int} (hk : 0 ≤ k ∧ k < tsize t) : spX t.A t.B (mvg t c k) = fX c t.A (spX t.A t.B k) ∧ spY t.A t.B (mvg t c k) = fY c (spY t.A t.B k) := by
  have s := hs.s2 q
  have hk2 : 0 ≤ k ∧ k < 2 * t.A + t.B := by omega
  have hb : 0 ≤ t.B ∧ t.B ≤ 2 := by omega
  rcases hs.l2 q hc with rfl | rfl | ⟨rfl | rfl, h2⟩
  · rw [mvg2 q]; exact ⟨rfl, rfl⟩
  · rw [mvg2 q]; exact sd_spot s.1 hb hk2
  · rw [mvg2 q]; exact en_spot s.1 h2 hk2
  · rw [mvg2 q]
    have e1 := en_spot s.1 h2 hk2
    have e2 := sd_spot s.1 hb (en_en s.1 h2 hk2).2
    exact ⟨e2.1.trans e1.1, by rw [show fY 3 (spY t.A t.B k) = 2 - spY t.A t.B k from rfl, ← e1.2]; exact e2.2⟩
theorem seat_mvg (hs : TabS t) (q : t.shape = 2) {c : Nat} (hc : c < mvn t) {k r : Int} (hk : 0 ≤ k ∧ k < tsize t) (h : SeatAt t (fX c t.A (spX t.A t.B k)) (fY c (spY t.A t.B k)) r) : r = mvg t c k := by
  have s := hs.s2 q
  have e := mvg_spot hs q hc hk
  have b := mvg_b hs hc hk
  rcases h with ⟨-, h⟩ | ⟨m, rfl, h1, h2, -⟩
  · refine absurd e ?_
    have := h (mvg t c k).toNat (by omega)
    rw [show (((mvg t c k).toNat : Nat) : Int) = mvg t c k by omega] at this
    exact this
  · exact sp_inj s.1 (b := t.B) (by omega) (by omega) (by omega) (h2.1.trans e.1.symm) (h2.2.trans e.2.symm)
/-- With one head seat its mirrored place is none. -/
theorem seat_none (hs : TabS t) (q : t.shape = 2) (hB : t.B = 1) {c : Nat} (hc : c / 2 = 1) {r : Int} (h : SeatAt t (fX c t.A (spX t.A t.B t.A)) (fY c (spY t.A t.B t.A)) r) : r < 0 := by
  have s := hs.s2 q
  rcases h with ⟨rfl, -⟩ | ⟨m, rfl, h1, h2, -⟩
  · omega
  · exfalso
    have c1 := sp_cases (a := t.A) (b := t.B) (k := t.A) s.1 (by omega) (by omega)
    have c2 := sp_cases (a := t.A) (b := t.B) (k := m) s.1 (by omega) (by omega)
    unfold fX fY at h2
    rw [if_pos hc] at h2
    split at h2 <;> omega
end
end Go.Proofs.Xx

/-
  The reference's candidates, its keeps and its order of lists.
-/
namespace Go.Proofs.Xx
open Go Go.Proofs
set_option linter.unusedSimpArgs false
set_option linter.unusedVariables false
set_option maxRecDepth 100000

def rcount (t : Tab) : Nat := if t.shape = 1 then (2 * t.A).toNat else if t.shape = 2 then 4 else 2
theorem rcount1 {t : Tab} (q : t.shape = 1) : rcount t = (2 * t.A).toNat := by unfold rcount; rw [if_pos q]
theorem rcount2 {t : Tab} (q : t.shape = 2) : rcount t = 4 := by unfold rcount; rw [if_neg (show ¬ t.shape = 1 by omega), if_pos q]
theorem rcount3 {t : Tab} (q : 3 ≤ t.shape) : rcount t = 2 := by unfold rcount; rw [if_neg (show ¬ t.shape = 1 by omega), if_neg (show ¬ t.shape = 2 by omega)]
theorem rcount_le {t : Tab} (hs : TabS t) : mvn t ≤ rcount t ∧ rcount t ≤ 48 := by
  rcases hs.cases3 with q | q | q
  · have := hs.s1 q; rw [mvn1 q, rcount1 q]; omega
  · rw [mvn2 q, rcount2 q]; split <;> omega
  · rw [mvn3 q, rcount3 q]; omega
/-- A number beyond the moves: a long table with one head seat. -/
theorem rcount_big {t : Tab} (hs : TabS t) {c : Nat} (h1 : mvn t ≤ c) (h2 : c < rcount t) : t.shape = 2 ∧ t.B = 1 ∧ c / 2 = 1 := by
  rcases hs.cases3 with q | q | q
  · rw [mvn1 q] at h1; rw [rcount1 q] at h2; omega
  · rw [mvn2 q] at h1
    rw [rcount2 q] at h2
    split at h1
    · exact ⟨q, by assumption, by omega⟩
    · omega
  · rw [mvn3 q] at h1; rw [rcount3 q] at h2; omega
def CandV (t : Tab) (c : Nat) (k : Int) (x : Int) : Prop := (c < mvn t → x = mvg t c k) ∧ (mvn t ≤ c → k < t.A)
theorem refCand_ok {h0 : AH} (w : WfH h0) (t : Tab) (hs : TabS t) (c : Nat) (hc : c < rcount t) : Fn Tryz.prog Xh 124 [tabV t, .int .i64 c] h0 (fun v h' => ∃ l, ((c < mvn t ∧ l = cand t c) ∨ (mvn t ≤ c ∧ l = [])) ∧ Hs h0 h' [.sl v 3 1 eI l]) := by
  have S := Hs.start w
  have hsz := tsize_le t
  have hB := hs.b
  have hsp := hs.shape
  have hcl := rcount_le hs
  obtain ⟨n, hn⟩ := Int.eq_ofNat_of_zero_le hsz.1
  have hbig := fun q => rcount_big hs (c := c) q hc
  refine Fn_K rfl Tryz.func124 rfl rfl ?_
  all_goals (repeat' (first | refine K_seq ?_ | refine k_cond rfl ?_ | refine K_skip ?_ | refine K_exit ?_ | refine k_block ?_ | refine K_scope ?_ | (refine K_region (id := 0) ?_; (refine bx S ?_; clear S; intro b h S); refine mv ?_; refine KO_nil ?_) | (refine K_region (id := 1) ?_; (first | refine lB S rfl rfl ?_ | refine lES2 S rfl rfl ?_ | refine lEB S ?_ | refine lH S ?_))))
  (refine KO_fn rfl rfl rfl rfl rfl ((refSize_ok S.wf t).mono ?_); rintro _ h ⟨rfl, x⟩) <;> (replace S := S.join0 x; clear x; rw [hn]; refine mv ?_; refine KO_nil ?_)
  all_goals (repeat' (first | refine K_seq ?_ | refine k_cond rfl ?_ | refine K_skip ?_ | refine K_exit ?_ | refine k_block ?_ | refine K_scope ?_ | (refine K_region (id := 2) ?_; refine mv ?_; refine KO_nil ?_) | (refine K_region (id := 3) ?_; refine mv ?_; refine KO_nil ?_)))
  refine k_loop (σ := Nat × Value × List Int) (fun (k, v, l) h' => Hs h0 h' [.sl v 3 1 eI l, .blk b (eT t) 25] ∧ k ≤ n ∧ l.length = k ∧ ∀ i, i < k → CandV t c i (pAt l i)) (fun (k, v, l) => n - k) (fun (k, v, l) => [(1, .int .i64 c), (2, PT b), (5, .int .i64 n), (6, v), (7, .int .i64 k)]) (0, .slice none 0 0, []) (by repeat (first | exact Ks.le_nil _ | refine Ks.le_cons rfl ?_ | refine Ks.le_int ?_)) ?_ ?_
  · exact ⟨S.nilS, Nat.zero_le _, rfl, fun i hi => by omega⟩
  clear S
  rintro ⟨k, v, l⟩ h ⟨S, h1, h2, h3⟩
  all_goals (repeat' (first | refine K_seq ?_ | refine k_cond rfl ?_ | refine K_skip ?_ | refine K_exit ?_ | refine k_block ?_ | refine K_scope ?_ | (refine K_region (id := 4) ?_; refine mv ?_; refine mv ?_; (first | refine cT ?_ | refine cF ?_ | (refine cS ?_ ?_ <;> intro hc)) <;> (refine KO_nil ?_))))
  · have hk : k < n := by omega
    (repeat (refine K_seq ?_)); refine K_region (id := 6) ?_; refine mv ?_; refine mv ?_; refine KO_nil ?_
    (repeat (refine K_seq ?_)); refine K_region (id := 7) ?_; (first | refine vl ?_ | refine fB S ?_ | refine fS S rfl rfl ?_ | refine fA ?_); (first | refine lB S rfl rfl ?_ | refine lES2 S rfl rfl ?_ | refine lEB S ?_ | refine lH S ?_); refine KO_nil ?_
    refine K_join1 (σ := Int) (fun x h' => Hs h0 h' [.sl v 3 1 eI l, .blk b (eT t) 25] ∧ CandV t c k x) (fun x => [(1, .int .i64 c), (2, PT b), (5, .int .i64 n), (6, v), (7, .int .i64 k), (8, .int .i64 x)]) ?_ ?_
    · refine k_block ?_
      skip
      all_goals (repeat' (first | refine K_seq ?_ | refine k_cond rfl ?_ | refine K_skip ?_ | refine K_exit ?_ | refine k_block ?_ | refine K_scope ?_ | (refine K_region (id := 8) ?_; refine mv ?_; (first | refine cT ?_ | refine cF ?_ | (refine cS ?_ ?_ <;> intro hc)) <;> (refine KO_nil ?_)) | (refine K_region (id := 9) ?_; refine mv ?_; (first | refine sb ?_ | refine vl ?_); refine mv ?_; (first | refine sb ?_ | refine vl ?_); refine mv ?_; refine KO_nil ?_) | (refine K_region (id := 10) ?_; (first | refine cT ?_ | refine cF ?_ | (refine cS ?_ ?_ <;> intro hc)) <;> (refine mv ?_; refine KO_nil ?_)) | (refine K_region (id := 11) ?_; refine mv ?_; refine mv ?_; (first | refine qu ?_ | refine vl ?_); (first | refine ad ?_ | refine vl ?_); refine mv ?_; (first | refine rm ?_ | refine vl ?_); refine mv ?_; refine KO_nil ?_) | (refine K_region (id := 12) ?_; refine mv ?_; (first | refine rm ?_ | refine vl ?_); (first | refine cT ?_ | refine cF ?_ | (refine cS ?_ ?_ <;> intro hc)) <;> (refine KO_nil ?_)) | (refine K_region (id := 13) ?_; refine mv ?_; (first | refine qu ?_ | refine vl ?_); refine mv ?_; (first | refine ad ?_ | refine vl ?_); refine mv ?_; (first | refine sb ?_ | refine vl ?_); refine mv ?_; (first | refine rm ?_ | refine vl ?_); refine mv ?_; refine KO_nil ?_) | (refine K_region (id := 14) ?_; (first | refine cT ?_ | refine cF ?_ | (refine cS ?_ ?_ <;> intro hc)) <;> (refine mv ?_; refine KO_nil ?_))))
      · have hsh : t.shape = 1 := by assumption
        have s := hs.s1 hsh
        refine ⟨_, ⟨S, fun _ => ?_, fun q => ?_⟩, ((by repeat (first | exact Ks.le_nil _ | refine Ks.le_cons rfl ?_ | refine Ks.le_int ?_)))⟩
        · have e1 : ((c / 2 : Nat) : Int) = (c : Int) / 2 := by omega
          rw [mvg1 hsh]; unfold rgv
          rw [if_neg (by omega), e1, show t.A = (n : Int) by omega, show (c : Int) / 2 - k + n = (c : Int) / 2 + n - k by omega]
        · have := (hbig q).1; omega
      · have hsh : t.shape = 1 := by assumption
        have s := hs.s1 hsh
        refine ⟨_, ⟨S, fun _ => ?_, fun q => ?_⟩, ((by repeat (first | exact Ks.le_nil _ | refine Ks.le_cons rfl ?_ | refine Ks.le_int ?_)))⟩
        · have e1 : ((c / 2 : Nat) : Int) = (c : Int) / 2 := by omega
          rw [mvg1 hsh]; unfold rgv
          rw [if_pos (by omega), e1, show t.A = (n : Int) by omega]
        · have := (hbig q).1; omega
      · have hsh : t.shape = 2 := by assumption
        have s := hs.s2 hsh
        have hlow : mvn t ≤ c → (k : Int) ≤ t.A := fun q => by
          rcases Nat.eq_zero_or_pos k with z | z
          · omega
          · have := (h3 (k - 1) (by omega)).2 q; omega
        have key : ∀ r, SeatAt t (fX c t.A (spX t.A t.B k)) (fY c (spY t.A t.B k)) r → (r < 0 → mvn t ≤ c) ∧ (¬ r < 0 → CandV t c k r) := fun r hr => by
          refine ⟨fun q => Nat.le_of_not_lt fun z => ?_, fun q => ⟨fun z => seat_mvg hs hsh z ⟨by omega, by omega⟩ hr, fun z => ?_⟩⟩
          · have e := seat_mvg hs hsh z ⟨by omega, by omega⟩ hr
            have := mvg_b hs z (k := k) ⟨by omega, by omega⟩
            omega
          · have hb := hbig z
            have := hlow z
            rcases Int.lt_trichotomy (k : Int) t.A with g | g | g
            · exact g
            · rw [g] at hr
              exact absurd (seat_none hs hsh hb.2.1 hb.2.2 hr) q
            · omega
        have bx := sp_cases (a := t.A) (b := t.B) (k := k) s.1 (by omega) (by omega)
        have bx1 : -1 ≤ spX t.A t.B k ∧ spX t.A t.B k ≤ 1000 := by omega
        have by1 : 0 ≤ spY t.A t.B k ∧ spY t.A t.B k ≤ 2 := by omega
        clear bx
        all_goals (repeat' (first | refine K_seq ?_ | refine k_cond rfl ?_ | refine K_skip ?_ | refine K_exit ?_ | refine k_block ?_ | refine K_scope ?_ | (refine K_region (id := 15) ?_; (first | refine lB S rfl rfl ?_ | refine lES2 S rfl rfl ?_ | refine lEB S ?_ | refine lH S ?_); refine mv ?_)))
        (refine KO_fn rfl rfl rfl rfl rfl ((spotOf_ok S.wf t k hB (by omega)).mono ?_); rintro _ h ⟨rfl, x⟩) <;> (replace S := S.join0 x; clear x; (refine al S ?_; clear S; intro b h S); (first | (refine sB S rfl rfl ?_; clear S; intro h S) | (refine sE2 S rfl rfl ?_; clear S; intro h S)); refine KO_nil ?_)
        all_goals (repeat' (first | refine K_seq ?_ | refine k_cond rfl ?_ | refine K_skip ?_ | refine K_exit ?_ | refine k_block ?_ | refine K_scope ?_ | (refine K_region (id := 15) ?_; (first | refine lB S rfl rfl ?_ | refine lES2 S rfl rfl ?_ | refine lEB S ?_ | refine lH S ?_); refine mv ?_) | (refine K_region (id := 16) ?_; refine mv ?_; (first | refine rm ?_ | refine vl ?_); (first | refine cT ?_ | refine cF ?_ | (refine cS ?_ ?_ <;> intro hc)) <;> (refine KO_nil ?_)) | (refine K_region (id := 17) ?_; (first | refine vl ?_ | refine fB S ?_ | refine fS S rfl rfl ?_ | refine fA ?_); (first | refine lB S rfl rfl ?_ | refine lES2 S rfl rfl ?_ | refine lEB S ?_ | refine lH S ?_); (first | refine sb ?_ | refine vl ?_); (first | refine vl ?_ | refine fB S ?_ | refine fS S rfl rfl ?_ | refine fA ?_); (first | (refine sB S rfl rfl ?_; clear S; intro h S) | (refine sE2 S rfl rfl ?_; clear S; intro h S)); refine KO_nil ?_) | (refine K_region (id := 18) ?_; refine mv ?_; (first | refine qu ?_ | refine vl ?_); (first | refine cT ?_ | refine cF ?_ | (refine cS ?_ ?_ <;> intro hc)) <;> (refine KO_nil ?_)) | (refine K_region (id := 19) ?_; (first | refine vl ?_ | refine fB S ?_ | refine fS S rfl rfl ?_ | refine fA ?_); (first | refine lB S rfl rfl ?_ | refine lES2 S rfl rfl ?_ | refine lEB S ?_ | refine lH S ?_); (first | refine sb ?_ | refine vl ?_); (first | refine vl ?_ | refine fB S ?_ | refine fS S rfl rfl ?_ | refine fA ?_); (first | refine lB S rfl rfl ?_ | refine lES2 S rfl rfl ?_ | refine lEB S ?_ | refine lH S ?_); (first | refine sb ?_ | refine vl ?_); (first | refine vl ?_ | refine fB S ?_ | refine fS S rfl rfl ?_ | refine fA ?_); (first | (refine sB S rfl rfl ?_; clear S; intro h S) | (refine sE2 S rfl rfl ?_; clear S; intro h S)); refine KO_nil ?_)))
        all_goals (all_goals (repeat' (first | refine K_seq ?_ | refine k_cond rfl ?_ | refine K_skip ?_ | refine K_exit ?_ | refine k_block ?_ | refine K_scope ?_ | (refine K_region (id := 20) ?_; (first | refine lB S rfl rfl ?_ | refine lES2 S rfl rfl ?_ | refine lEB S ?_ | refine lH S ?_); (first | refine lB S rfl rfl ?_ | refine lES2 S rfl rfl ?_ | refine lEB S ?_ | refine lH S ?_)))))
        all_goals ((refine KO_fn rfl rfl rfl rfl rfl ((seatAt_ok S.wf t _ _ hs).mono ?_); rintro _ h ⟨r, rfl, hr, x⟩) <;> (replace S := S.join0 x; clear x; refine mv ?_; refine KO_nil ?_))
        all_goals have hr2 : SeatAt t (fX c t.A (spX t.A t.B k)) (fY c (spY t.A t.B k)) r := by (unfold fX fY; (repeat' split) <;> first | exact hr | (exfalso; omega))
        all_goals clear hr
        all_goals obtain ⟨key1, key2⟩ := key r hr2
        all_goals (all_goals (repeat' (first | refine K_seq ?_ | refine k_cond rfl ?_ | refine K_skip ?_ | refine K_exit ?_ | refine k_block ?_ | refine K_scope ?_ | (refine K_region (id := 20) ?_; (first | refine lB S rfl rfl ?_ | refine lES2 S rfl rfl ?_ | refine lEB S ?_ | refine lH S ?_); (first | refine lB S rfl rfl ?_ | refine lES2 S rfl rfl ?_ | refine lEB S ?_ | refine lH S ?_)) | (refine K_region (id := 21) ?_; refine mv ?_; (first | refine cT ?_ | refine cF ?_ | (refine cS ?_ ?_ <;> intro hc)) <;> (refine KO_nil ?_)) | (refine K_region (id := 22) ?_; refine mv ?_; refine KO_nil ?_))))
        all_goals (first | (refine ⟨_, ⟨(S.del .here), key2 (by first | assumption | (intro q; have q1 := key1 q; have q2 := hbig q1; omega))⟩, ?_⟩; (exact (by repeat (first | exact Ks.le_nil _ | refine Ks.le_cons rfl ?_ | refine Ks.le_int ?_)))) | skip)
        all_goals (refine K_ret ⟨_, rfl, ?_⟩)
        all_goals exact ⟨[], .inr ⟨key1 (by assumption), rfl⟩, S.drop.nilS⟩
      · have hsh : 3 ≤ t.shape := by omega
        refine ⟨_, ⟨S, fun _ => ?_, fun q => ?_⟩, ((by repeat (first | exact Ks.le_nil _ | refine Ks.le_cons rfl ?_ | refine Ks.le_int ?_)))⟩
        · rw [mvg3 hsh, show c = 1 by omega]; show (n : Int) - 1 - k = tsize t - 1 - k; omega
        · have := (hbig q).1; omega
      · have hsh : 3 ≤ t.shape := by omega
        refine ⟨_, ⟨S, fun _ => ?_, fun q => ?_⟩, ((by repeat (first | exact Ks.le_nil _ | refine Ks.le_cons rfl ?_ | refine Ks.le_int ?_)))⟩
        · have := rcount3 hsh
          rw [mvg3 hsh, show c = 0 by omega]; rfl
        · have := (hbig q).1; omega
    · clear S
      rintro x h ⟨S, hx⟩
      skip
      all_goals (repeat' (first | refine K_seq ?_ | refine k_cond rfl ?_ | refine K_skip ?_ | refine K_exit ?_ | refine k_block ?_ | refine K_scope ?_ | (refine K_region (id := 23) ?_; refine mv ?_; refine mv ?_; (refine one 1 S ?_; clear S; intro u h S))))
      refine app (y0 := x) S rfl rfl ?_; clear S; intro v h S; refine mv ?_; refine KO_nil ?_
      all_goals (repeat' (first | refine K_seq ?_ | refine k_cond rfl ?_ | refine K_skip ?_ | refine K_exit ?_ | refine k_block ?_ | refine K_scope ?_ | (refine K_region (id := 5) ?_; refine mv ?_; (first | refine ad ?_ | refine vl ?_); refine mv ?_; refine KO_nil ?_) | (refine K_region (id := 23) ?_; refine mv ?_; refine mv ?_; (refine one 1 S ?_; clear S; intro u h S))))
      refine ⟨(k + 1, v, l ++ [x]), ?_, ?_, (by repeat (first | exact Ks.le_nil _ | refine Ks.le_cons rfl ?_ | refine Ks.le_int ?_))⟩
      · show n - (k + 1) < n - k; omega
      · refine ⟨S, by omega, by simp; omega, nxt (fun i hi => ?_) ?_⟩
        · have : pAt (l ++ [x]) i = pAt l i := gA1 (by omega)
          rw [this]; exact h3 i hi
        · have : pAt (l ++ [x]) k = x := by
            unfold pAt; rw [gA2 (by omega), h2, Nat.sub_self]; rfl
          rw [this]; exact hx
  · have hk : k = n := by omega
    subst hk
    skip
    all_goals (repeat' (first | refine K_seq ?_ | refine k_cond rfl ?_ | refine K_skip ?_ | refine K_exit ?_ | refine k_block ?_ | refine K_scope ?_ | (refine K_region (id := 24) ?_; refine mv ?_; refine mv ?_; refine KO_nil ?_)))
    refine K_ret ⟨_, rfl, ?_⟩
    refine ⟨l, ?_, S.only .here⟩
    rcases Nat.lt_or_ge c (mvn t) with q | q
    · exact .inl ⟨q, cand_is (by omega) fun i hi => (h3 i (by omega)).1 q⟩
    · have hb := hbig q
      have s := hs.s2 hb.1
      have := (h3 (k - 1) (by omega)).2 q
      omega
theorem keepA {t : Tab} {p : List Int} : KeepP t p ↔ ∀ k, k < p.length → (openP t k ↔ openP t (pAt p k)) ∧ ∀ m, m < p.length → KeepM t p k m := by
  constructor
  · intro h k hk
    refine ⟨(h k hk).1, fun m hm => ?_⟩
    rcases Nat.lt_trichotomy m k with q | rfl | q
    · exact (h k hk).2 m q
    · exact ⟨⟨fun z => absurd z (besideP_self t _), fun z => absurd z (besideP_self t _)⟩, ⟨fun z => absurd z (acrossP_self t _), fun z => absurd z (acrossP_self t _)⟩⟩
    · have := (h m hm).2 k q
      exact ⟨(besideP_symm t _ _).trans (this.1.trans (besideP_symm t _ _)), (acrossP_symm t _ _).trans (this.2.trans (acrossP_symm t _ _))⟩
  · exact fun h k hk => ⟨(h k hk).1, fun m hm => (h k hk).2 m (by omega)⟩
theorem refKeeps_ok {h0 : AH} (w : WfH h0) (t : Tab) (r : TabR h0 t) (hs : TabS t) (pv : Value) (p : List Int) (hp : RdL h0 pv 1 eI p) (hn : (p.length : Int) = tsize t) (hb : ∀ k, k < p.length → 0 ≤ pAt p k ∧ pAt p k < tsize t) :
    Fn Tryz.prog Xh 125 [tabV t, pv] h0 (fun v h' => BoolIs v (KeepP t p) ∧ Hs h0 h' []) := by
  have S := Hs.start w
  have hsz := tsize_le t
  rw [keepA]
  refine Fn_K rfl Tryz.func125 rfl rfl ?_
  all_goals (repeat' (first | refine K_seq ?_ | refine k_cond rfl ?_ | refine K_skip ?_ | refine K_exit ?_ | refine k_block ?_ | refine K_scope ?_ | (refine K_region (id := 0) ?_; (refine bx S ?_; clear S; intro b h S); refine mv ?_; refine KO_nil ?_) | (refine K_region (id := 1) ?_; refine mv ?_; refine KO_nil ?_)))
  obtain ⟨bt, hnm⟩ : ∃ x, x = b := ⟨_, rfl⟩; subst hnm
  refine k_loop (σ := Nat) (fun k h' => Hs h0 h' [.blk bt (eT t) 25] ∧ k ≤ p.length ∧ ∀ j, j < k → (openP t j ↔ openP t (pAt p j)) ∧ ∀ m, m < p.length → KeepM t p j m) (fun k => p.length - k) (fun k => [(1, pv), (2, PT bt), (5, .int .i64 k)]) 0 (by repeat (first | exact Ks.le_nil _ | refine Ks.le_cons rfl ?_ | refine Ks.le_int ?_)) ?_ ?_
  · exact ⟨S, Nat.zero_le _, fun j hj => absurd hj (Nat.not_lt_zero _)⟩
  clear S
  rintro k h ⟨S, h1, h2⟩
  all_goals (repeat' (first | refine K_seq ?_ | refine k_cond rfl ?_ | refine K_skip ?_ | refine K_exit ?_ | refine k_block ?_ | refine K_scope ?_ | (refine K_region (id := 2) ?_; refine mv ?_; refine mv ?_; (first | refine lnB S ?_ | refine lnS S rfl rfl ?_); (first | refine cT ?_ | refine cF ?_ | (refine cS ?_ ?_ <;> intro hc)) <;> (refine KO_nil ?_)) | (refine K_region (id := 11) ?_; refine mv ?_; refine KO_nil ?_)))
  · have hk : k < p.length := by omega
    have hbk := hb k hk
    refine K_join (σ := Unit) (fun _ h' => Hs h0 h' [.blk bt (eT t) 25] ∧ (openP t k ↔ openP t (pAt p k))) (fun _ => [(1, pv), (2, PT bt), (5, .int .i64 k)]) ?_ ?_
    · refine K_drawX (id := 4) [(3, (0, 1)), (7, (0, 1))] [some (bt), some (blkS pv)] ?_; refine KX_cons ?_; (first | (refine lB S rfl rfl ?_ <;> refine KO_nil ⟨⟨by (first | exact True.intro | exact Or.inl rfl | exact Or.inr rfl | exact Or.inr (congrArg some (blkOf_elA _ _ _ _)) | exact ⟨Or.inl rfl, rfl⟩ | exact ⟨Or.inr rfl, rfl⟩), rfl⟩, ?_⟩) | (refine lES2 S rfl rfl ?_ <;> refine KO_nil ⟨⟨by (first | exact True.intro | exact Or.inl rfl | exact Or.inr rfl | exact Or.inr (congrArg some (blkOf_elA _ _ _ _)) | exact ⟨Or.inl rfl, rfl⟩ | exact ⟨Or.inr rfl, rfl⟩), rfl⟩, ?_⟩) | (refine lEB S ?_ <;> refine KO_nil ⟨⟨by (first | exact True.intro | exact Or.inl rfl | exact Or.inr rfl | exact Or.inr (congrArg some (blkOf_elA _ _ _ _)) | exact ⟨Or.inl rfl, rfl⟩ | exact ⟨Or.inr rfl, rfl⟩), rfl⟩, ?_⟩) | (refine lH S ?_ <;> refine KO_nil ⟨⟨by (first | exact True.intro | exact Or.inl rfl | exact Or.inr rfl | exact Or.inr (congrArg some (blkOf_elA _ _ _ _)) | exact ⟨Or.inl rfl, rfl⟩ | exact ⟨Or.inr rfl, rfl⟩), rfl⟩, ?_⟩)); refine KX_cons ?_; (first | (refine mv ?_ <;> refine KO_nil ⟨⟨by (first | exact True.intro | exact Or.inl rfl | exact Or.inr rfl | exact Or.inr (congrArg some (blkOf_elA _ _ _ _)) | exact ⟨Or.inl rfl, rfl⟩ | exact ⟨Or.inr rfl, rfl⟩), rfl⟩, ?_⟩))
      ((refine KX_cons ?_; first | refine KO_fn rfl rfl rfl rfl rfl ((isOpen_ok S.wf t ⟨r.1.ext w S.ext, r.2⟩ k).mono ?_)); rintro _ h ⟨⟨rfl, ho⟩ | ⟨rfl, ho⟩, x⟩) <;> ((refine KO_nil ⟨⟨True.intro, ?_⟩, ?_⟩; (focus ((show keepsX _ _ _ _ _; simp only [keepsX]; (repeat' (first | exact True.intro | refine And.intro ?_ ?_)); all_goals (intro hw; first | exact True.intro | exact rfl | exact x.ext.old _ S.bB | exact x.ext.old _ (S.bR (by first | omega | grind)) | exact x.ext.old _ (S.bX (by assumption) (by assumption) (by first | omega | grind)) | exact x.ext.old _ (S.bY (by assumption) (by assumption)) | (refine x.ext.old _ ?_; assumption) | exact absurd hw (by decide +kernel)))))); replace S := S.join0 x; clear x; refine KX_cons ?_; (first | (refine lB S rfl rfl ?_ <;> refine KO_nil ⟨⟨by (first | exact True.intro | exact Or.inl rfl | exact Or.inr rfl | exact Or.inr (congrArg some (blkOf_elA _ _ _ _)) | exact ⟨Or.inl rfl, rfl⟩ | exact ⟨Or.inr rfl, rfl⟩), rfl⟩, ?_⟩) | (refine lES2 S rfl rfl ?_ <;> refine KO_nil ⟨⟨by (first | exact True.intro | exact Or.inl rfl | exact Or.inr rfl | exact Or.inr (congrArg some (blkOf_elA _ _ _ _)) | exact ⟨Or.inl rfl, rfl⟩ | exact ⟨Or.inr rfl, rfl⟩), rfl⟩, ?_⟩) | (refine lEB S ?_ <;> refine KO_nil ⟨⟨by (first | exact True.intro | exact Or.inl rfl | exact Or.inr rfl | exact Or.inr (congrArg some (blkOf_elA _ _ _ _)) | exact ⟨Or.inl rfl, rfl⟩ | exact ⟨Or.inr rfl, rfl⟩), rfl⟩, ?_⟩) | (refine lH S ?_ <;> refine KO_nil ⟨⟨by (first | exact True.intro | exact Or.inl rfl | exact Or.inr rfl | exact Or.inr (congrArg some (blkOf_elA _ _ _ _)) | exact ⟨Or.inl rfl, rfl⟩ | exact ⟨Or.inr rfl, rfl⟩), rfl⟩, ?_⟩)); refine KX_cons ?_; (first | (refine mv ?_ <;> refine KO_nil ⟨⟨by (first | exact True.intro | exact Or.inl rfl | exact Or.inr rfl | exact Or.inr (congrArg some (blkOf_elA _ _ _ _)) | exact ⟨Or.inl rfl, rfl⟩ | exact ⟨Or.inr rfl, rfl⟩), rfl⟩, ?_⟩)); refine KX_cons ?_; (first | (refine mv ?_ <;> refine KO_nil ⟨⟨by (first | exact True.intro | exact Or.inl rfl | exact Or.inr rfl | exact Or.inr (congrArg some (blkOf_elA _ _ _ _)) | exact ⟨Or.inl rfl, rfl⟩ | exact ⟨Or.inr rfl, rfl⟩), rfl⟩, ?_⟩)); refine KX_cons ?_; (first | (refine ixB S ?_ <;> refine KO_nil ⟨⟨by (first | exact True.intro | exact Or.inl rfl | exact Or.inr rfl | exact Or.inr (congrArg some (blkOf_elA _ _ _ _)) | exact ⟨Or.inl rfl, rfl⟩ | exact ⟨Or.inr rfl, rfl⟩), rfl⟩, ?_⟩) | (refine ixS2 S rfl rfl ?_ <;> refine KO_nil ⟨⟨by (first | exact True.intro | exact Or.inl rfl | exact Or.inr rfl | exact Or.inr (congrArg some (blkOf_elA _ _ _ _)) | exact ⟨Or.inl rfl, rfl⟩ | exact ⟨Or.inr rfl, rfl⟩), rfl⟩, ?_⟩)); refine KX_cons ?_; (first | (refine lB S rfl rfl ?_ <;> refine KO_nil ⟨⟨by (first | exact True.intro | exact Or.inl rfl | exact Or.inr rfl | exact Or.inr (congrArg some (blkOf_elA _ _ _ _)) | exact ⟨Or.inl rfl, rfl⟩ | exact ⟨Or.inr rfl, rfl⟩), rfl⟩, ?_⟩) | (refine lES2 S rfl rfl ?_ <;> refine KO_nil ⟨⟨by (first | exact True.intro | exact Or.inl rfl | exact Or.inr rfl | exact Or.inr (congrArg some (blkOf_elA _ _ _ _)) | exact ⟨Or.inl rfl, rfl⟩ | exact ⟨Or.inr rfl, rfl⟩), rfl⟩, ?_⟩) | (refine lEB S ?_ <;> refine KO_nil ⟨⟨by (first | exact True.intro | exact Or.inl rfl | exact Or.inr rfl | exact Or.inr (congrArg some (blkOf_elA _ _ _ _)) | exact ⟨Or.inl rfl, rfl⟩ | exact ⟨Or.inr rfl, rfl⟩), rfl⟩, ?_⟩) | (refine lH S ?_ <;> refine KO_nil ⟨⟨by (first | exact True.intro | exact Or.inl rfl | exact Or.inr rfl | exact Or.inr (congrArg some (blkOf_elA _ _ _ _)) | exact ⟨Or.inl rfl, rfl⟩ | exact ⟨Or.inr rfl, rfl⟩), rfl⟩, ?_⟩)))
      all_goals (try simp only [Int.toNat_natCast])
      all_goals (((refine KX_cons ?_; first | refine KO_fn rfl rfl rfl rfl rfl ((isOpen_ok S.wf t ⟨r.1.ext w S.ext, r.2⟩ (pAt p k)).mono ?_)); rintro _ h ⟨⟨rfl, ho2⟩ | ⟨rfl, ho2⟩, x⟩) <;> ((refine KO_nil ⟨⟨True.intro, ?_⟩, ?_⟩; (focus ((show keepsX _ _ _ _ _; simp only [keepsX]; (repeat' (first | exact True.intro | refine And.intro ?_ ?_)); all_goals (intro hw; first | exact True.intro | exact rfl | exact x.ext.old _ S.bB | exact x.ext.old _ (S.bR (by first | omega | grind)) | exact x.ext.old _ (S.bX (by assumption) (by assumption) (by first | omega | grind)) | exact x.ext.old _ (S.bY (by assumption) (by assumption)) | (refine x.ext.old _ ?_; assumption) | exact absurd hw (by decide +kernel)))))); replace S := S.join0 x; clear x; refine KX_cons ?_; (first | (refine vl ?_ <;> refine KO_nil ⟨⟨by (first | exact True.intro | exact Or.inl rfl | exact Or.inr rfl | exact Or.inr (congrArg some (blkOf_elA _ _ _ _)) | exact ⟨Or.inl rfl, rfl⟩ | exact ⟨Or.inr rfl, rfl⟩), rfl⟩, ?_⟩)); refine KX_nil ?_))
      all_goals (all_goals (repeat' (first | refine K_seq ?_ | refine k_cond rfl ?_ | refine K_skip ?_ | refine K_exit ?_ | refine k_block ?_ | refine K_scope ?_ | (refine K_region (id := 5) ?_; refine mv ?_; refine KO_nil ?_))))
      · exact ⟨(), ⟨S, ⟨fun _ => ho2, fun _ => ho⟩⟩, ((by repeat (first | exact Ks.le_nil _ | refine Ks.le_cons rfl ?_ | refine Ks.le_int ?_)))⟩
      · refine K_ret ⟨_, rfl, ?_⟩
        exact ⟨.inr ⟨rfl, fun q => ho2 ((q k hk).1.1 ho)⟩, S.drop⟩
      · refine K_ret ⟨_, rfl, ?_⟩
        exact ⟨.inr ⟨rfl, fun q => ho ((q k hk).1.2 ho2)⟩, S.drop⟩
      · exact ⟨(), ⟨S, ⟨fun q => absurd q ho, fun q => absurd q ho2⟩⟩, ((by repeat (first | exact Ks.le_nil _ | refine Ks.le_cons rfl ?_ | refine Ks.le_int ?_)))⟩
    clear S
    rintro - h ⟨S, hop⟩
    skip
    all_goals (repeat' (first | refine K_seq ?_ | refine k_cond rfl ?_ | refine K_skip ?_ | refine K_exit ?_ | refine k_block ?_ | refine K_scope ?_ | (refine K_region (id := 6) ?_; refine mv ?_; refine KO_nil ?_)))
    refine k_loop (σ := Nat) (fun m h' => Hs h0 h' [.blk bt (eT t) 25] ∧ m ≤ p.length ∧ ∀ j, j < m → KeepM t p k j) (fun m => p.length - m) (fun m => [(1, pv), (2, .pointer (some ⟨bt, 0, none⟩)), (5, .int .i64 k), (6, .int .i64 m)]) 0 (by repeat (first | exact Ks.le_nil _ | refine Ks.le_cons rfl ?_ | refine Ks.le_int ?_)) ?_ ?_
    · exact ⟨S, Nat.zero_le _, fun j hj => absurd hj (Nat.not_lt_zero _)⟩
    clear S
    rintro m h ⟨S, g1, g2⟩
    all_goals (repeat' (first | refine K_seq ?_ | refine k_cond rfl ?_ | refine K_skip ?_ | refine K_exit ?_ | refine k_block ?_ | refine K_scope ?_ | (refine K_region (id := 3) ?_; refine mv ?_; (first | refine ad ?_ | refine vl ?_); refine mv ?_; refine KO_nil ?_) | (refine K_region (id := 7) ?_; refine mv ?_; refine mv ?_; (first | refine lnB S ?_ | refine lnS S rfl rfl ?_); (first | refine cT ?_ | refine cF ?_ | (refine cS ?_ ?_ <;> intro hc)) <;> (refine KO_nil ?_))))
    · have hm : m < p.length := by omega
      have hbm := hb m hm
      refine K_drawX (id := 9) [(4, (0, 1)), (8, (0, 1)), (12, (0, 1)), (20, (2, 3)), (24, (2, 3)), (28, (2, 3))] [some (bt), some (blkS pv), some (blkS pv), some (bt), some (blkS pv), some (blkS pv)] ?_; refine KX_cons ?_; (first | (refine lB S rfl rfl ?_ <;> refine KO_nil ⟨⟨by (first | exact True.intro | exact Or.inl rfl | exact Or.inr rfl | exact Or.inr (congrArg some (blkOf_elA _ _ _ _)) | exact ⟨Or.inl rfl, rfl⟩ | exact ⟨Or.inr rfl, rfl⟩), rfl⟩, ?_⟩) | (refine lES2 S rfl rfl ?_ <;> refine KO_nil ⟨⟨by (first | exact True.intro | exact Or.inl rfl | exact Or.inr rfl | exact Or.inr (congrArg some (blkOf_elA _ _ _ _)) | exact ⟨Or.inl rfl, rfl⟩ | exact ⟨Or.inr rfl, rfl⟩), rfl⟩, ?_⟩) | (refine lEB S ?_ <;> refine KO_nil ⟨⟨by (first | exact True.intro | exact Or.inl rfl | exact Or.inr rfl | exact Or.inr (congrArg some (blkOf_elA _ _ _ _)) | exact ⟨Or.inl rfl, rfl⟩ | exact ⟨Or.inr rfl, rfl⟩), rfl⟩, ?_⟩) | (refine lH S ?_ <;> refine KO_nil ⟨⟨by (first | exact True.intro | exact Or.inl rfl | exact Or.inr rfl | exact Or.inr (congrArg some (blkOf_elA _ _ _ _)) | exact ⟨Or.inl rfl, rfl⟩ | exact ⟨Or.inr rfl, rfl⟩), rfl⟩, ?_⟩)); refine KX_cons ?_; (first | (refine mv ?_ <;> refine KO_nil ⟨⟨by (first | exact True.intro | exact Or.inl rfl | exact Or.inr rfl | exact Or.inr (congrArg some (blkOf_elA _ _ _ _)) | exact ⟨Or.inl rfl, rfl⟩ | exact ⟨Or.inr rfl, rfl⟩), rfl⟩, ?_⟩)); refine KX_cons ?_; (first | (refine mv ?_ <;> refine KO_nil ⟨⟨by (first | exact True.intro | exact Or.inl rfl | exact Or.inr rfl | exact Or.inr (congrArg some (blkOf_elA _ _ _ _)) | exact ⟨Or.inl rfl, rfl⟩ | exact ⟨Or.inr rfl, rfl⟩), rfl⟩, ?_⟩))
      ((refine KX_cons ?_; first | refine KO_fn rfl rfl rfl rfl rfl ((besideAt_ok S.wf t k m hs (by omega) (by omega)).mono ?_)); rintro _ h ⟨⟨rfl, ho⟩ | ⟨rfl, ho⟩, x⟩) <;> ((refine KO_nil ⟨⟨True.intro, ?_⟩, ?_⟩; (focus ((show keepsX _ _ _ _ _; simp only [keepsX]; (repeat' (first | exact True.intro | refine And.intro ?_ ?_)); all_goals (intro hw; first | exact True.intro | exact rfl | exact x.ext.old _ S.bB | exact x.ext.old _ (S.bR (by first | omega | grind)) | exact x.ext.old _ (S.bX (by assumption) (by assumption) (by first | omega | grind)) | exact x.ext.old _ (S.bY (by assumption) (by assumption)) | (refine x.ext.old _ ?_; assumption) | exact absurd hw (by decide +kernel)))))); replace S := S.join0 x; clear x; refine KX_cons ?_; (first | (refine lB S rfl rfl ?_ <;> refine KO_nil ⟨⟨by (first | exact True.intro | exact Or.inl rfl | exact Or.inr rfl | exact Or.inr (congrArg some (blkOf_elA _ _ _ _)) | exact ⟨Or.inl rfl, rfl⟩ | exact ⟨Or.inr rfl, rfl⟩), rfl⟩, ?_⟩) | (refine lES2 S rfl rfl ?_ <;> refine KO_nil ⟨⟨by (first | exact True.intro | exact Or.inl rfl | exact Or.inr rfl | exact Or.inr (congrArg some (blkOf_elA _ _ _ _)) | exact ⟨Or.inl rfl, rfl⟩ | exact ⟨Or.inr rfl, rfl⟩), rfl⟩, ?_⟩) | (refine lEB S ?_ <;> refine KO_nil ⟨⟨by (first | exact True.intro | exact Or.inl rfl | exact Or.inr rfl | exact Or.inr (congrArg some (blkOf_elA _ _ _ _)) | exact ⟨Or.inl rfl, rfl⟩ | exact ⟨Or.inr rfl, rfl⟩), rfl⟩, ?_⟩) | (refine lH S ?_ <;> refine KO_nil ⟨⟨by (first | exact True.intro | exact Or.inl rfl | exact Or.inr rfl | exact Or.inr (congrArg some (blkOf_elA _ _ _ _)) | exact ⟨Or.inl rfl, rfl⟩ | exact ⟨Or.inr rfl, rfl⟩), rfl⟩, ?_⟩)); refine KX_cons ?_; (first | (refine mv ?_ <;> refine KO_nil ⟨⟨by (first | exact True.intro | exact Or.inl rfl | exact Or.inr rfl | exact Or.inr (congrArg some (blkOf_elA _ _ _ _)) | exact ⟨Or.inl rfl, rfl⟩ | exact ⟨Or.inr rfl, rfl⟩), rfl⟩, ?_⟩)); refine KX_cons ?_; (first | (refine mv ?_ <;> refine KO_nil ⟨⟨by (first | exact True.intro | exact Or.inl rfl | exact Or.inr rfl | exact Or.inr (congrArg some (blkOf_elA _ _ _ _)) | exact ⟨Or.inl rfl, rfl⟩ | exact ⟨Or.inr rfl, rfl⟩), rfl⟩, ?_⟩)); refine KX_cons ?_; (first | (refine ixB S ?_ <;> refine KO_nil ⟨⟨by (first | exact True.intro | exact Or.inl rfl | exact Or.inr rfl | exact Or.inr (congrArg some (blkOf_elA _ _ _ _)) | exact ⟨Or.inl rfl, rfl⟩ | exact ⟨Or.inr rfl, rfl⟩), rfl⟩, ?_⟩) | (refine ixS2 S rfl rfl ?_ <;> refine KO_nil ⟨⟨by (first | exact True.intro | exact Or.inl rfl | exact Or.inr rfl | exact Or.inr (congrArg some (blkOf_elA _ _ _ _)) | exact ⟨Or.inl rfl, rfl⟩ | exact ⟨Or.inr rfl, rfl⟩), rfl⟩, ?_⟩)); refine KX_cons ?_; (first | (refine lB S rfl rfl ?_ <;> refine KO_nil ⟨⟨by (first | exact True.intro | exact Or.inl rfl | exact Or.inr rfl | exact Or.inr (congrArg some (blkOf_elA _ _ _ _)) | exact ⟨Or.inl rfl, rfl⟩ | exact ⟨Or.inr rfl, rfl⟩), rfl⟩, ?_⟩) | (refine lES2 S rfl rfl ?_ <;> refine KO_nil ⟨⟨by (first | exact True.intro | exact Or.inl rfl | exact Or.inr rfl | exact Or.inr (congrArg some (blkOf_elA _ _ _ _)) | exact ⟨Or.inl rfl, rfl⟩ | exact ⟨Or.inr rfl, rfl⟩), rfl⟩, ?_⟩) | (refine lEB S ?_ <;> refine KO_nil ⟨⟨by (first | exact True.intro | exact Or.inl rfl | exact Or.inr rfl | exact Or.inr (congrArg some (blkOf_elA _ _ _ _)) | exact ⟨Or.inl rfl, rfl⟩ | exact ⟨Or.inr rfl, rfl⟩), rfl⟩, ?_⟩) | (refine lH S ?_ <;> refine KO_nil ⟨⟨by (first | exact True.intro | exact Or.inl rfl | exact Or.inr rfl | exact Or.inr (congrArg some (blkOf_elA _ _ _ _)) | exact ⟨Or.inl rfl, rfl⟩ | exact ⟨Or.inr rfl, rfl⟩), rfl⟩, ?_⟩)); refine KX_cons ?_; (first | (refine mv ?_ <;> refine KO_nil ⟨⟨by (first | exact True.intro | exact Or.inl rfl | exact Or.inr rfl | exact Or.inr (congrArg some (blkOf_elA _ _ _ _)) | exact ⟨Or.inl rfl, rfl⟩ | exact ⟨Or.inr rfl, rfl⟩), rfl⟩, ?_⟩)); refine KX_cons ?_; (first | (refine mv ?_ <;> refine KO_nil ⟨⟨by (first | exact True.intro | exact Or.inl rfl | exact Or.inr rfl | exact Or.inr (congrArg some (blkOf_elA _ _ _ _)) | exact ⟨Or.inl rfl, rfl⟩ | exact ⟨Or.inr rfl, rfl⟩), rfl⟩, ?_⟩)); refine KX_cons ?_; (first | (refine ixB S ?_ <;> refine KO_nil ⟨⟨by (first | exact True.intro | exact Or.inl rfl | exact Or.inr rfl | exact Or.inr (congrArg some (blkOf_elA _ _ _ _)) | exact ⟨Or.inl rfl, rfl⟩ | exact ⟨Or.inr rfl, rfl⟩), rfl⟩, ?_⟩) | (refine ixS2 S rfl rfl ?_ <;> refine KO_nil ⟨⟨by (first | exact True.intro | exact Or.inl rfl | exact Or.inr rfl | exact Or.inr (congrArg some (blkOf_elA _ _ _ _)) | exact ⟨Or.inl rfl, rfl⟩ | exact ⟨Or.inr rfl, rfl⟩), rfl⟩, ?_⟩)); refine KX_cons ?_; (first | (refine lB S rfl rfl ?_ <;> refine KO_nil ⟨⟨by (first | exact True.intro | exact Or.inl rfl | exact Or.inr rfl | exact Or.inr (congrArg some (blkOf_elA _ _ _ _)) | exact ⟨Or.inl rfl, rfl⟩ | exact ⟨Or.inr rfl, rfl⟩), rfl⟩, ?_⟩) | (refine lES2 S rfl rfl ?_ <;> refine KO_nil ⟨⟨by (first | exact True.intro | exact Or.inl rfl | exact Or.inr rfl | exact Or.inr (congrArg some (blkOf_elA _ _ _ _)) | exact ⟨Or.inl rfl, rfl⟩ | exact ⟨Or.inr rfl, rfl⟩), rfl⟩, ?_⟩) | (refine lEB S ?_ <;> refine KO_nil ⟨⟨by (first | exact True.intro | exact Or.inl rfl | exact Or.inr rfl | exact Or.inr (congrArg some (blkOf_elA _ _ _ _)) | exact ⟨Or.inl rfl, rfl⟩ | exact ⟨Or.inr rfl, rfl⟩), rfl⟩, ?_⟩) | (refine lH S ?_ <;> refine KO_nil ⟨⟨by (first | exact True.intro | exact Or.inl rfl | exact Or.inr rfl | exact Or.inr (congrArg some (blkOf_elA _ _ _ _)) | exact ⟨Or.inl rfl, rfl⟩ | exact ⟨Or.inr rfl, rfl⟩), rfl⟩, ?_⟩)))
      all_goals (try simp only [Int.toNat_natCast])
      all_goals (((refine KX_cons ?_; first | refine KO_fn rfl rfl rfl rfl rfl ((besideAt_ok S.wf t (pAt p k) (pAt p m) hs hbk hbm).mono ?_)); rintro _ h ⟨⟨rfl, ho2⟩ | ⟨rfl, ho2⟩, x⟩) <;> ((refine KO_nil ⟨⟨True.intro, ?_⟩, ?_⟩; (focus ((show keepsX _ _ _ _ _; simp only [keepsX]; (repeat' (first | exact True.intro | refine And.intro ?_ ?_)); all_goals (intro hw; first | exact True.intro | exact rfl | exact x.ext.old _ S.bB | exact x.ext.old _ (S.bR (by first | omega | grind)) | exact x.ext.old _ (S.bX (by assumption) (by assumption) (by first | omega | grind)) | exact x.ext.old _ (S.bY (by assumption) (by assumption)) | (refine x.ext.old _ ?_; assumption) | exact absurd hw (by decide +kernel)))))); replace S := S.join0 x; clear x; refine KX_cons ?_; (first | (refine vl ?_ <;> refine KO_nil ⟨⟨by (first | exact True.intro | exact Or.inl rfl | exact Or.inr rfl | exact Or.inr (congrArg some (blkOf_elA _ _ _ _)) | exact ⟨Or.inl rfl, rfl⟩ | exact ⟨Or.inr rfl, rfl⟩), rfl⟩, ?_⟩)); refine KX_cons ?_; (first | (refine mv ?_ <;> refine KO_nil ⟨⟨by (first | exact True.intro | exact Or.inl rfl | exact Or.inr rfl | exact Or.inr (congrArg some (blkOf_elA _ _ _ _)) | exact ⟨Or.inl rfl, rfl⟩ | exact ⟨Or.inr rfl, rfl⟩), rfl⟩, ?_⟩)); refine KX_cons ?_; (first | (refine off ?_; refine KO_nil ⟨⟨by (first | exact True.intro | exact Or.inl rfl | exact Or.inr rfl | exact Or.inr (congrArg some (blkOf_elA _ _ _ _)) | exact ⟨Or.inl rfl, rfl⟩ | exact ⟨Or.inr rfl, rfl⟩), rfl⟩, ?_⟩) | (refine lB S rfl rfl ?_ <;> refine KO_nil ⟨⟨by (first | exact True.intro | exact Or.inl rfl | exact Or.inr rfl | exact Or.inr (congrArg some (blkOf_elA _ _ _ _)) | exact ⟨Or.inl rfl, rfl⟩ | exact ⟨Or.inr rfl, rfl⟩), rfl⟩, ?_⟩) | (refine lES2 S rfl rfl ?_ <;> refine KO_nil ⟨⟨by (first | exact True.intro | exact Or.inl rfl | exact Or.inr rfl | exact Or.inr (congrArg some (blkOf_elA _ _ _ _)) | exact ⟨Or.inl rfl, rfl⟩ | exact ⟨Or.inr rfl, rfl⟩), rfl⟩, ?_⟩) | (refine lEB S ?_ <;> refine KO_nil ⟨⟨by (first | exact True.intro | exact Or.inl rfl | exact Or.inr rfl | exact Or.inr (congrArg some (blkOf_elA _ _ _ _)) | exact ⟨Or.inl rfl, rfl⟩ | exact ⟨Or.inr rfl, rfl⟩), rfl⟩, ?_⟩) | (refine lH S ?_ <;> refine KO_nil ⟨⟨by (first | exact True.intro | exact Or.inl rfl | exact Or.inr rfl | exact Or.inr (congrArg some (blkOf_elA _ _ _ _)) | exact ⟨Or.inl rfl, rfl⟩ | exact ⟨Or.inr rfl, rfl⟩), rfl⟩, ?_⟩)); refine KX_cons ?_; (first | (refine off ?_; refine KO_nil ⟨⟨by (first | exact True.intro | exact Or.inl rfl | exact Or.inr rfl | exact Or.inr (congrArg some (blkOf_elA _ _ _ _)) | exact ⟨Or.inl rfl, rfl⟩ | exact ⟨Or.inr rfl, rfl⟩), rfl⟩, ?_⟩) | (refine mv ?_ <;> refine KO_nil ⟨⟨by (first | exact True.intro | exact Or.inl rfl | exact Or.inr rfl | exact Or.inr (congrArg some (blkOf_elA _ _ _ _)) | exact ⟨Or.inl rfl, rfl⟩ | exact ⟨Or.inr rfl, rfl⟩), rfl⟩, ?_⟩)); refine KX_cons ?_; (first | (refine off ?_; refine KO_nil ⟨⟨by (first | exact True.intro | exact Or.inl rfl | exact Or.inr rfl | exact Or.inr (congrArg some (blkOf_elA _ _ _ _)) | exact ⟨Or.inl rfl, rfl⟩ | exact ⟨Or.inr rfl, rfl⟩), rfl⟩, ?_⟩) | (refine mv ?_ <;> refine KO_nil ⟨⟨by (first | exact True.intro | exact Or.inl rfl | exact Or.inr rfl | exact Or.inr (congrArg some (blkOf_elA _ _ _ _)) | exact ⟨Or.inl rfl, rfl⟩ | exact ⟨Or.inr rfl, rfl⟩), rfl⟩, ?_⟩)); (first | (refine KX_cons ?_; refine off ?_; refine KO_nil ⟨⟨True.intro, by show keepsX _ _ _ _ _; simp [keepsX]⟩, ?_⟩; refine KX_cons ?_; (first | (refine off ?_; refine KO_nil ⟨⟨by (first | exact True.intro | exact Or.inl rfl | exact Or.inr rfl | exact Or.inr (congrArg some (blkOf_elA _ _ _ _)) | exact ⟨Or.inl rfl, rfl⟩ | exact ⟨Or.inr rfl, rfl⟩), rfl⟩, ?_⟩) | (refine lB S rfl rfl ?_ <;> refine KO_nil ⟨⟨by (first | exact True.intro | exact Or.inl rfl | exact Or.inr rfl | exact Or.inr (congrArg some (blkOf_elA _ _ _ _)) | exact ⟨Or.inl rfl, rfl⟩ | exact ⟨Or.inr rfl, rfl⟩), rfl⟩, ?_⟩) | (refine lES2 S rfl rfl ?_ <;> refine KO_nil ⟨⟨by (first | exact True.intro | exact Or.inl rfl | exact Or.inr rfl | exact Or.inr (congrArg some (blkOf_elA _ _ _ _)) | exact ⟨Or.inl rfl, rfl⟩ | exact ⟨Or.inr rfl, rfl⟩), rfl⟩, ?_⟩) | (refine lEB S ?_ <;> refine KO_nil ⟨⟨by (first | exact True.intro | exact Or.inl rfl | exact Or.inr rfl | exact Or.inr (congrArg some (blkOf_elA _ _ _ _)) | exact ⟨Or.inl rfl, rfl⟩ | exact ⟨Or.inr rfl, rfl⟩), rfl⟩, ?_⟩) | (refine lH S ?_ <;> refine KO_nil ⟨⟨by (first | exact True.intro | exact Or.inl rfl | exact Or.inr rfl | exact Or.inr (congrArg some (blkOf_elA _ _ _ _)) | exact ⟨Or.inl rfl, rfl⟩ | exact ⟨Or.inr rfl, rfl⟩), rfl⟩, ?_⟩)); refine KX_cons ?_; (first | (refine off ?_; refine KO_nil ⟨⟨by (first | exact True.intro | exact Or.inl rfl | exact Or.inr rfl | exact Or.inr (congrArg some (blkOf_elA _ _ _ _)) | exact ⟨Or.inl rfl, rfl⟩ | exact ⟨Or.inr rfl, rfl⟩), rfl⟩, ?_⟩) | (refine mv ?_ <;> refine KO_nil ⟨⟨by (first | exact True.intro | exact Or.inl rfl | exact Or.inr rfl | exact Or.inr (congrArg some (blkOf_elA _ _ _ _)) | exact ⟨Or.inl rfl, rfl⟩ | exact ⟨Or.inr rfl, rfl⟩), rfl⟩, ?_⟩)); refine KX_cons ?_; (first | (refine off ?_; refine KO_nil ⟨⟨by (first | exact True.intro | exact Or.inl rfl | exact Or.inr rfl | exact Or.inr (congrArg some (blkOf_elA _ _ _ _)) | exact ⟨Or.inl rfl, rfl⟩ | exact ⟨Or.inr rfl, rfl⟩), rfl⟩, ?_⟩) | (refine mv ?_ <;> refine KO_nil ⟨⟨by (first | exact True.intro | exact Or.inl rfl | exact Or.inr rfl | exact Or.inr (congrArg some (blkOf_elA _ _ _ _)) | exact ⟨Or.inl rfl, rfl⟩ | exact ⟨Or.inr rfl, rfl⟩), rfl⟩, ?_⟩)); refine KX_cons ?_; (first | (refine off ?_; refine KO_nil ⟨⟨by (first | exact True.intro | exact Or.inl rfl | exact Or.inr rfl | exact Or.inr (congrArg some (blkOf_elA _ _ _ _)) | exact ⟨Or.inl rfl, rfl⟩ | exact ⟨Or.inr rfl, rfl⟩), rfl⟩, ?_⟩) | (refine ixB S ?_ <;> refine KO_nil ⟨⟨by (first | exact True.intro | exact Or.inl rfl | exact Or.inr rfl | exact Or.inr (congrArg some (blkOf_elA _ _ _ _)) | exact ⟨Or.inl rfl, rfl⟩ | exact ⟨Or.inr rfl, rfl⟩), rfl⟩, ?_⟩) | (refine ixS2 S rfl rfl ?_ <;> refine KO_nil ⟨⟨by (first | exact True.intro | exact Or.inl rfl | exact Or.inr rfl | exact Or.inr (congrArg some (blkOf_elA _ _ _ _)) | exact ⟨Or.inl rfl, rfl⟩ | exact ⟨Or.inr rfl, rfl⟩), rfl⟩, ?_⟩)); refine KX_cons ?_; (first | (refine off ?_; refine KO_nil ⟨⟨by (first | exact True.intro | exact Or.inl rfl | exact Or.inr rfl | exact Or.inr (congrArg some (blkOf_elA _ _ _ _)) | exact ⟨Or.inl rfl, rfl⟩ | exact ⟨Or.inr rfl, rfl⟩), rfl⟩, ?_⟩) | (refine lB S rfl rfl ?_ <;> refine KO_nil ⟨⟨by (first | exact True.intro | exact Or.inl rfl | exact Or.inr rfl | exact Or.inr (congrArg some (blkOf_elA _ _ _ _)) | exact ⟨Or.inl rfl, rfl⟩ | exact ⟨Or.inr rfl, rfl⟩), rfl⟩, ?_⟩) | (refine lES2 S rfl rfl ?_ <;> refine KO_nil ⟨⟨by (first | exact True.intro | exact Or.inl rfl | exact Or.inr rfl | exact Or.inr (congrArg some (blkOf_elA _ _ _ _)) | exact ⟨Or.inl rfl, rfl⟩ | exact ⟨Or.inr rfl, rfl⟩), rfl⟩, ?_⟩) | (refine lEB S ?_ <;> refine KO_nil ⟨⟨by (first | exact True.intro | exact Or.inl rfl | exact Or.inr rfl | exact Or.inr (congrArg some (blkOf_elA _ _ _ _)) | exact ⟨Or.inl rfl, rfl⟩ | exact ⟨Or.inr rfl, rfl⟩), rfl⟩, ?_⟩) | (refine lH S ?_ <;> refine KO_nil ⟨⟨by (first | exact True.intro | exact Or.inl rfl | exact Or.inr rfl | exact Or.inr (congrArg some (blkOf_elA _ _ _ _)) | exact ⟨Or.inl rfl, rfl⟩ | exact ⟨Or.inr rfl, rfl⟩), rfl⟩, ?_⟩)); refine KX_cons ?_; (first | (refine off ?_; refine KO_nil ⟨⟨by (first | exact True.intro | exact Or.inl rfl | exact Or.inr rfl | exact Or.inr (congrArg some (blkOf_elA _ _ _ _)) | exact ⟨Or.inl rfl, rfl⟩ | exact ⟨Or.inr rfl, rfl⟩), rfl⟩, ?_⟩) | (refine mv ?_ <;> refine KO_nil ⟨⟨by (first | exact True.intro | exact Or.inl rfl | exact Or.inr rfl | exact Or.inr (congrArg some (blkOf_elA _ _ _ _)) | exact ⟨Or.inl rfl, rfl⟩ | exact ⟨Or.inr rfl, rfl⟩), rfl⟩, ?_⟩)); refine KX_cons ?_; (first | (refine off ?_; refine KO_nil ⟨⟨by (first | exact True.intro | exact Or.inl rfl | exact Or.inr rfl | exact Or.inr (congrArg some (blkOf_elA _ _ _ _)) | exact ⟨Or.inl rfl, rfl⟩ | exact ⟨Or.inr rfl, rfl⟩), rfl⟩, ?_⟩) | (refine mv ?_ <;> refine KO_nil ⟨⟨by (first | exact True.intro | exact Or.inl rfl | exact Or.inr rfl | exact Or.inr (congrArg some (blkOf_elA _ _ _ _)) | exact ⟨Or.inl rfl, rfl⟩ | exact ⟨Or.inr rfl, rfl⟩), rfl⟩, ?_⟩)); refine KX_cons ?_; (first | (refine off ?_; refine KO_nil ⟨⟨by (first | exact True.intro | exact Or.inl rfl | exact Or.inr rfl | exact Or.inr (congrArg some (blkOf_elA _ _ _ _)) | exact ⟨Or.inl rfl, rfl⟩ | exact ⟨Or.inr rfl, rfl⟩), rfl⟩, ?_⟩) | (refine ixB S ?_ <;> refine KO_nil ⟨⟨by (first | exact True.intro | exact Or.inl rfl | exact Or.inr rfl | exact Or.inr (congrArg some (blkOf_elA _ _ _ _)) | exact ⟨Or.inl rfl, rfl⟩ | exact ⟨Or.inr rfl, rfl⟩), rfl⟩, ?_⟩) | (refine ixS2 S rfl rfl ?_ <;> refine KO_nil ⟨⟨by (first | exact True.intro | exact Or.inl rfl | exact Or.inr rfl | exact Or.inr (congrArg some (blkOf_elA _ _ _ _)) | exact ⟨Or.inl rfl, rfl⟩ | exact ⟨Or.inr rfl, rfl⟩), rfl⟩, ?_⟩)); refine KX_cons ?_; (first | (refine off ?_; refine KO_nil ⟨⟨by (first | exact True.intro | exact Or.inl rfl | exact Or.inr rfl | exact Or.inr (congrArg some (blkOf_elA _ _ _ _)) | exact ⟨Or.inl rfl, rfl⟩ | exact ⟨Or.inr rfl, rfl⟩), rfl⟩, ?_⟩) | (refine lB S rfl rfl ?_ <;> refine KO_nil ⟨⟨by (first | exact True.intro | exact Or.inl rfl | exact Or.inr rfl | exact Or.inr (congrArg some (blkOf_elA _ _ _ _)) | exact ⟨Or.inl rfl, rfl⟩ | exact ⟨Or.inr rfl, rfl⟩), rfl⟩, ?_⟩) | (refine lES2 S rfl rfl ?_ <;> refine KO_nil ⟨⟨by (first | exact True.intro | exact Or.inl rfl | exact Or.inr rfl | exact Or.inr (congrArg some (blkOf_elA _ _ _ _)) | exact ⟨Or.inl rfl, rfl⟩ | exact ⟨Or.inr rfl, rfl⟩), rfl⟩, ?_⟩) | (refine lEB S ?_ <;> refine KO_nil ⟨⟨by (first | exact True.intro | exact Or.inl rfl | exact Or.inr rfl | exact Or.inr (congrArg some (blkOf_elA _ _ _ _)) | exact ⟨Or.inl rfl, rfl⟩ | exact ⟨Or.inr rfl, rfl⟩), rfl⟩, ?_⟩) | (refine lH S ?_ <;> refine KO_nil ⟨⟨by (first | exact True.intro | exact Or.inl rfl | exact Or.inr rfl | exact Or.inr (congrArg some (blkOf_elA _ _ _ _)) | exact ⟨Or.inl rfl, rfl⟩ | exact ⟨Or.inr rfl, rfl⟩), rfl⟩, ?_⟩)); (first | (refine KX_cons ?_; refine off ?_; refine KO_nil ⟨⟨True.intro, by show keepsX _ _ _ _ _; simp [keepsX]⟩, ?_⟩; refine KX_cons ?_; (first | (refine off ?_; refine KO_nil ⟨⟨by (first | exact True.intro | exact Or.inl rfl | exact Or.inr rfl | exact Or.inr (congrArg some (blkOf_elA _ _ _ _)) | exact ⟨Or.inl rfl, rfl⟩ | exact ⟨Or.inr rfl, rfl⟩), rfl⟩, ?_⟩) | (refine vl ?_ <;> refine KO_nil ⟨⟨by (first | exact True.intro | exact Or.inl rfl | exact Or.inr rfl | exact Or.inr (congrArg some (blkOf_elA _ _ _ _)) | exact ⟨Or.inl rfl, rfl⟩ | exact ⟨Or.inr rfl, rfl⟩), rfl⟩, ?_⟩)); refine KX_cons ?_; (first | (refine vl ?_ <;> refine KO_nil ⟨⟨by (first | exact True.intro | exact Or.inl rfl | exact Or.inr rfl | exact Or.inr (congrArg some (blkOf_elA _ _ _ _)) | exact ⟨Or.inl rfl, rfl⟩ | exact ⟨Or.inr rfl, rfl⟩), rfl⟩, ?_⟩)); refine KX_nil ?_) | skip)) | skip)))
      · ((refine KX_cons ?_; first | refine KO_fn rfl rfl rfl rfl rfl ((acrossAt_ok S.wf t k m hs (by omega) (by omega)).mono ?_)); rintro _ h ⟨⟨rfl, ha⟩ | ⟨rfl, ha⟩, x⟩) <;> ((refine KO_nil ⟨⟨True.intro, ?_⟩, ?_⟩; (focus ((show keepsX _ _ _ _ _; simp only [keepsX]; (repeat' (first | exact True.intro | refine And.intro ?_ ?_)); all_goals (intro hw; first | exact True.intro | exact rfl | exact x.ext.old _ S.bB | exact x.ext.old _ (S.bR (by first | omega | grind)) | exact x.ext.old _ (S.bX (by assumption) (by assumption) (by first | omega | grind)) | exact x.ext.old _ (S.bY (by assumption) (by assumption)) | (refine x.ext.old _ ?_; assumption) | exact absurd hw (by decide +kernel)))))); replace S := S.join0 x; clear x; refine KX_cons ?_; (first | (refine off ?_; refine KO_nil ⟨⟨by (first | exact True.intro | exact Or.inl rfl | exact Or.inr rfl | exact Or.inr (congrArg some (blkOf_elA _ _ _ _)) | exact ⟨Or.inl rfl, rfl⟩ | exact ⟨Or.inr rfl, rfl⟩), rfl⟩, ?_⟩) | (refine lB S rfl rfl ?_ <;> refine KO_nil ⟨⟨by (first | exact True.intro | exact Or.inl rfl | exact Or.inr rfl | exact Or.inr (congrArg some (blkOf_elA _ _ _ _)) | exact ⟨Or.inl rfl, rfl⟩ | exact ⟨Or.inr rfl, rfl⟩), rfl⟩, ?_⟩) | (refine lES2 S rfl rfl ?_ <;> refine KO_nil ⟨⟨by (first | exact True.intro | exact Or.inl rfl | exact Or.inr rfl | exact Or.inr (congrArg some (blkOf_elA _ _ _ _)) | exact ⟨Or.inl rfl, rfl⟩ | exact ⟨Or.inr rfl, rfl⟩), rfl⟩, ?_⟩) | (refine lEB S ?_ <;> refine KO_nil ⟨⟨by (first | exact True.intro | exact Or.inl rfl | exact Or.inr rfl | exact Or.inr (congrArg some (blkOf_elA _ _ _ _)) | exact ⟨Or.inl rfl, rfl⟩ | exact ⟨Or.inr rfl, rfl⟩), rfl⟩, ?_⟩) | (refine lH S ?_ <;> refine KO_nil ⟨⟨by (first | exact True.intro | exact Or.inl rfl | exact Or.inr rfl | exact Or.inr (congrArg some (blkOf_elA _ _ _ _)) | exact ⟨Or.inl rfl, rfl⟩ | exact ⟨Or.inr rfl, rfl⟩), rfl⟩, ?_⟩)); refine KX_cons ?_; (first | (refine off ?_; refine KO_nil ⟨⟨by (first | exact True.intro | exact Or.inl rfl | exact Or.inr rfl | exact Or.inr (congrArg some (blkOf_elA _ _ _ _)) | exact ⟨Or.inl rfl, rfl⟩ | exact ⟨Or.inr rfl, rfl⟩), rfl⟩, ?_⟩) | (refine mv ?_ <;> refine KO_nil ⟨⟨by (first | exact True.intro | exact Or.inl rfl | exact Or.inr rfl | exact Or.inr (congrArg some (blkOf_elA _ _ _ _)) | exact ⟨Or.inl rfl, rfl⟩ | exact ⟨Or.inr rfl, rfl⟩), rfl⟩, ?_⟩)); refine KX_cons ?_; (first | (refine off ?_; refine KO_nil ⟨⟨by (first | exact True.intro | exact Or.inl rfl | exact Or.inr rfl | exact Or.inr (congrArg some (blkOf_elA _ _ _ _)) | exact ⟨Or.inl rfl, rfl⟩ | exact ⟨Or.inr rfl, rfl⟩), rfl⟩, ?_⟩) | (refine mv ?_ <;> refine KO_nil ⟨⟨by (first | exact True.intro | exact Or.inl rfl | exact Or.inr rfl | exact Or.inr (congrArg some (blkOf_elA _ _ _ _)) | exact ⟨Or.inl rfl, rfl⟩ | exact ⟨Or.inr rfl, rfl⟩), rfl⟩, ?_⟩)); refine KX_cons ?_; (first | (refine off ?_; refine KO_nil ⟨⟨by (first | exact True.intro | exact Or.inl rfl | exact Or.inr rfl | exact Or.inr (congrArg some (blkOf_elA _ _ _ _)) | exact ⟨Or.inl rfl, rfl⟩ | exact ⟨Or.inr rfl, rfl⟩), rfl⟩, ?_⟩) | (refine ixB S ?_ <;> refine KO_nil ⟨⟨by (first | exact True.intro | exact Or.inl rfl | exact Or.inr rfl | exact Or.inr (congrArg some (blkOf_elA _ _ _ _)) | exact ⟨Or.inl rfl, rfl⟩ | exact ⟨Or.inr rfl, rfl⟩), rfl⟩, ?_⟩) | (refine ixS2 S rfl rfl ?_ <;> refine KO_nil ⟨⟨by (first | exact True.intro | exact Or.inl rfl | exact Or.inr rfl | exact Or.inr (congrArg some (blkOf_elA _ _ _ _)) | exact ⟨Or.inl rfl, rfl⟩ | exact ⟨Or.inr rfl, rfl⟩), rfl⟩, ?_⟩)); refine KX_cons ?_; (first | (refine off ?_; refine KO_nil ⟨⟨by (first | exact True.intro | exact Or.inl rfl | exact Or.inr rfl | exact Or.inr (congrArg some (blkOf_elA _ _ _ _)) | exact ⟨Or.inl rfl, rfl⟩ | exact ⟨Or.inr rfl, rfl⟩), rfl⟩, ?_⟩) | (refine lB S rfl rfl ?_ <;> refine KO_nil ⟨⟨by (first | exact True.intro | exact Or.inl rfl | exact Or.inr rfl | exact Or.inr (congrArg some (blkOf_elA _ _ _ _)) | exact ⟨Or.inl rfl, rfl⟩ | exact ⟨Or.inr rfl, rfl⟩), rfl⟩, ?_⟩) | (refine lES2 S rfl rfl ?_ <;> refine KO_nil ⟨⟨by (first | exact True.intro | exact Or.inl rfl | exact Or.inr rfl | exact Or.inr (congrArg some (blkOf_elA _ _ _ _)) | exact ⟨Or.inl rfl, rfl⟩ | exact ⟨Or.inr rfl, rfl⟩), rfl⟩, ?_⟩) | (refine lEB S ?_ <;> refine KO_nil ⟨⟨by (first | exact True.intro | exact Or.inl rfl | exact Or.inr rfl | exact Or.inr (congrArg some (blkOf_elA _ _ _ _)) | exact ⟨Or.inl rfl, rfl⟩ | exact ⟨Or.inr rfl, rfl⟩), rfl⟩, ?_⟩) | (refine lH S ?_ <;> refine KO_nil ⟨⟨by (first | exact True.intro | exact Or.inl rfl | exact Or.inr rfl | exact Or.inr (congrArg some (blkOf_elA _ _ _ _)) | exact ⟨Or.inl rfl, rfl⟩ | exact ⟨Or.inr rfl, rfl⟩), rfl⟩, ?_⟩)); refine KX_cons ?_; (first | (refine off ?_; refine KO_nil ⟨⟨by (first | exact True.intro | exact Or.inl rfl | exact Or.inr rfl | exact Or.inr (congrArg some (blkOf_elA _ _ _ _)) | exact ⟨Or.inl rfl, rfl⟩ | exact ⟨Or.inr rfl, rfl⟩), rfl⟩, ?_⟩) | (refine mv ?_ <;> refine KO_nil ⟨⟨by (first | exact True.intro | exact Or.inl rfl | exact Or.inr rfl | exact Or.inr (congrArg some (blkOf_elA _ _ _ _)) | exact ⟨Or.inl rfl, rfl⟩ | exact ⟨Or.inr rfl, rfl⟩), rfl⟩, ?_⟩)); refine KX_cons ?_; (first | (refine off ?_; refine KO_nil ⟨⟨by (first | exact True.intro | exact Or.inl rfl | exact Or.inr rfl | exact Or.inr (congrArg some (blkOf_elA _ _ _ _)) | exact ⟨Or.inl rfl, rfl⟩ | exact ⟨Or.inr rfl, rfl⟩), rfl⟩, ?_⟩) | (refine mv ?_ <;> refine KO_nil ⟨⟨by (first | exact True.intro | exact Or.inl rfl | exact Or.inr rfl | exact Or.inr (congrArg some (blkOf_elA _ _ _ _)) | exact ⟨Or.inl rfl, rfl⟩ | exact ⟨Or.inr rfl, rfl⟩), rfl⟩, ?_⟩)); refine KX_cons ?_; (first | (refine off ?_; refine KO_nil ⟨⟨by (first | exact True.intro | exact Or.inl rfl | exact Or.inr rfl | exact Or.inr (congrArg some (blkOf_elA _ _ _ _)) | exact ⟨Or.inl rfl, rfl⟩ | exact ⟨Or.inr rfl, rfl⟩), rfl⟩, ?_⟩) | (refine ixB S ?_ <;> refine KO_nil ⟨⟨by (first | exact True.intro | exact Or.inl rfl | exact Or.inr rfl | exact Or.inr (congrArg some (blkOf_elA _ _ _ _)) | exact ⟨Or.inl rfl, rfl⟩ | exact ⟨Or.inr rfl, rfl⟩), rfl⟩, ?_⟩) | (refine ixS2 S rfl rfl ?_ <;> refine KO_nil ⟨⟨by (first | exact True.intro | exact Or.inl rfl | exact Or.inr rfl | exact Or.inr (congrArg some (blkOf_elA _ _ _ _)) | exact ⟨Or.inl rfl, rfl⟩ | exact ⟨Or.inr rfl, rfl⟩), rfl⟩, ?_⟩)); refine KX_cons ?_; (first | (refine off ?_; refine KO_nil ⟨⟨by (first | exact True.intro | exact Or.inl rfl | exact Or.inr rfl | exact Or.inr (congrArg some (blkOf_elA _ _ _ _)) | exact ⟨Or.inl rfl, rfl⟩ | exact ⟨Or.inr rfl, rfl⟩), rfl⟩, ?_⟩) | (refine lB S rfl rfl ?_ <;> refine KO_nil ⟨⟨by (first | exact True.intro | exact Or.inl rfl | exact Or.inr rfl | exact Or.inr (congrArg some (blkOf_elA _ _ _ _)) | exact ⟨Or.inl rfl, rfl⟩ | exact ⟨Or.inr rfl, rfl⟩), rfl⟩, ?_⟩) | (refine lES2 S rfl rfl ?_ <;> refine KO_nil ⟨⟨by (first | exact True.intro | exact Or.inl rfl | exact Or.inr rfl | exact Or.inr (congrArg some (blkOf_elA _ _ _ _)) | exact ⟨Or.inl rfl, rfl⟩ | exact ⟨Or.inr rfl, rfl⟩), rfl⟩, ?_⟩) | (refine lEB S ?_ <;> refine KO_nil ⟨⟨by (first | exact True.intro | exact Or.inl rfl | exact Or.inr rfl | exact Or.inr (congrArg some (blkOf_elA _ _ _ _)) | exact ⟨Or.inl rfl, rfl⟩ | exact ⟨Or.inr rfl, rfl⟩), rfl⟩, ?_⟩) | (refine lH S ?_ <;> refine KO_nil ⟨⟨by (first | exact True.intro | exact Or.inl rfl | exact Or.inr rfl | exact Or.inr (congrArg some (blkOf_elA _ _ _ _)) | exact ⟨Or.inl rfl, rfl⟩ | exact ⟨Or.inr rfl, rfl⟩), rfl⟩, ?_⟩)); (first | (refine KX_cons ?_; refine off ?_; refine KO_nil ⟨⟨True.intro, by show keepsX _ _ _ _ _; simp [keepsX]⟩, ?_⟩; refine KX_cons ?_; (first | (refine off ?_; refine KO_nil ⟨⟨by (first | exact True.intro | exact Or.inl rfl | exact Or.inr rfl | exact Or.inr (congrArg some (blkOf_elA _ _ _ _)) | exact ⟨Or.inl rfl, rfl⟩ | exact ⟨Or.inr rfl, rfl⟩), rfl⟩, ?_⟩) | (refine vl ?_ <;> refine KO_nil ⟨⟨by (first | exact True.intro | exact Or.inl rfl | exact Or.inr rfl | exact Or.inr (congrArg some (blkOf_elA _ _ _ _)) | exact ⟨Or.inl rfl, rfl⟩ | exact ⟨Or.inr rfl, rfl⟩), rfl⟩, ?_⟩)); refine KX_cons ?_; (first | (refine vl ?_ <;> refine KO_nil ⟨⟨by (first | exact True.intro | exact Or.inl rfl | exact Or.inr rfl | exact Or.inr (congrArg some (blkOf_elA _ _ _ _)) | exact ⟨Or.inl rfl, rfl⟩ | exact ⟨Or.inr rfl, rfl⟩), rfl⟩, ?_⟩)); refine KX_nil ?_) | skip))
        all_goals (try simp only [Int.toNat_natCast])
        all_goals (((refine KX_cons ?_; first | refine KO_fn rfl rfl rfl rfl rfl ((acrossAt_ok S.wf t (pAt p k) (pAt p m) hs hbk hbm).mono ?_)); rintro _ h ⟨⟨rfl, ha2⟩ | ⟨rfl, ha2⟩, x⟩) <;> ((refine KO_nil ⟨⟨True.intro, ?_⟩, ?_⟩; (focus ((show keepsX _ _ _ _ _; simp only [keepsX]; (repeat' (first | exact True.intro | refine And.intro ?_ ?_)); all_goals (intro hw; first | exact True.intro | exact rfl | exact x.ext.old _ S.bB | exact x.ext.old _ (S.bR (by first | omega | grind)) | exact x.ext.old _ (S.bX (by assumption) (by assumption) (by first | omega | grind)) | exact x.ext.old _ (S.bY (by assumption) (by assumption)) | (refine x.ext.old _ ?_; assumption) | exact absurd hw (by decide +kernel)))))); replace S := S.join0 x; clear x; refine KX_cons ?_; (first | (refine off ?_; refine KO_nil ⟨⟨by (first | exact True.intro | exact Or.inl rfl | exact Or.inr rfl | exact Or.inr (congrArg some (blkOf_elA _ _ _ _)) | exact ⟨Or.inl rfl, rfl⟩ | exact ⟨Or.inr rfl, rfl⟩), rfl⟩, ?_⟩) | (refine vl ?_ <;> refine KO_nil ⟨⟨by (first | exact True.intro | exact Or.inl rfl | exact Or.inr rfl | exact Or.inr (congrArg some (blkOf_elA _ _ _ _)) | exact ⟨Or.inl rfl, rfl⟩ | exact ⟨Or.inr rfl, rfl⟩), rfl⟩, ?_⟩)); refine KX_cons ?_; (first | (refine vl ?_ <;> refine KO_nil ⟨⟨by (first | exact True.intro | exact Or.inl rfl | exact Or.inr rfl | exact Or.inr (congrArg some (blkOf_elA _ _ _ _)) | exact ⟨Or.inl rfl, rfl⟩ | exact ⟨Or.inr rfl, rfl⟩), rfl⟩, ?_⟩)); refine KX_nil ?_))
        all_goals (all_goals (repeat' (first | refine K_seq ?_ | refine k_cond rfl ?_ | refine K_skip ?_ | refine K_exit ?_ | refine k_block ?_ | refine K_scope ?_ | (refine K_region (id := 8) ?_; refine mv ?_; (first | refine ad ?_ | refine vl ?_); refine mv ?_; refine KO_nil ?_) | (refine K_region (id := 10) ?_; refine mv ?_; refine KO_nil ?_))))
        · refine ⟨m + 1, ?_, ?_, (by repeat (first | exact Ks.le_nil _ | refine Ks.le_cons rfl ?_ | refine Ks.le_int ?_))⟩
          · show p.length - (m + 1) < p.length - m; omega
          · exact ⟨S, by omega, nxt g2 ⟨⟨fun _ => ho2, fun _ => ho⟩, ⟨fun _ => ha2, fun _ => ha⟩⟩⟩
        · refine K_ret ⟨_, rfl, ?_⟩
          exact ⟨.inr ⟨rfl, fun q => ha2 (((q k hk).2 m hm).2.1 ha)⟩, S.drop⟩
        · refine K_ret ⟨_, rfl, ?_⟩
          exact ⟨.inr ⟨rfl, fun q => ha (((q k hk).2 m hm).2.2 ha2)⟩, S.drop⟩
        · refine ⟨m + 1, ?_, ?_, (by repeat (first | exact Ks.le_nil _ | refine Ks.le_cons rfl ?_ | refine Ks.le_int ?_))⟩
          · show p.length - (m + 1) < p.length - m; omega
          · exact ⟨S, by omega, nxt g2 ⟨⟨fun _ => ho2, fun _ => ho⟩, ⟨fun q => absurd q ha, fun q => absurd q ha2⟩⟩⟩
      · all_goals (repeat' (first | refine K_seq ?_ | refine k_cond rfl ?_ | refine K_skip ?_ | refine K_exit ?_ | refine k_block ?_ | refine K_scope ?_ | (refine K_region (id := 10) ?_; refine mv ?_; refine KO_nil ?_)))
        refine K_ret ⟨_, rfl, ?_⟩
        exact ⟨.inr ⟨rfl, fun q => ho2 (((q k hk).2 m hm).1.1 ho)⟩, S.drop⟩
      · all_goals (repeat' (first | refine K_seq ?_ | refine k_cond rfl ?_ | refine K_skip ?_ | refine K_exit ?_ | refine k_block ?_ | refine K_scope ?_ | (refine K_region (id := 10) ?_; refine mv ?_; refine KO_nil ?_)))
        refine K_ret ⟨_, rfl, ?_⟩
        exact ⟨.inr ⟨rfl, fun q => ho (((q k hk).2 m hm).1.2 ho2)⟩, S.drop⟩
      · ((refine KX_cons ?_; first | refine KO_fn rfl rfl rfl rfl rfl ((acrossAt_ok S.wf t k m hs (by omega) (by omega)).mono ?_)); rintro _ h ⟨⟨rfl, ha⟩ | ⟨rfl, ha⟩, x⟩) <;> ((refine KO_nil ⟨⟨True.intro, ?_⟩, ?_⟩; (focus ((show keepsX _ _ _ _ _; simp only [keepsX]; (repeat' (first | exact True.intro | refine And.intro ?_ ?_)); all_goals (intro hw; first | exact True.intro | exact rfl | exact x.ext.old _ S.bB | exact x.ext.old _ (S.bR (by first | omega | grind)) | exact x.ext.old _ (S.bX (by assumption) (by assumption) (by first | omega | grind)) | exact x.ext.old _ (S.bY (by assumption) (by assumption)) | (refine x.ext.old _ ?_; assumption) | exact absurd hw (by decide +kernel)))))); replace S := S.join0 x; clear x; refine KX_cons ?_; (first | (refine off ?_; refine KO_nil ⟨⟨by (first | exact True.intro | exact Or.inl rfl | exact Or.inr rfl | exact Or.inr (congrArg some (blkOf_elA _ _ _ _)) | exact ⟨Or.inl rfl, rfl⟩ | exact ⟨Or.inr rfl, rfl⟩), rfl⟩, ?_⟩) | (refine lB S rfl rfl ?_ <;> refine KO_nil ⟨⟨by (first | exact True.intro | exact Or.inl rfl | exact Or.inr rfl | exact Or.inr (congrArg some (blkOf_elA _ _ _ _)) | exact ⟨Or.inl rfl, rfl⟩ | exact ⟨Or.inr rfl, rfl⟩), rfl⟩, ?_⟩) | (refine lES2 S rfl rfl ?_ <;> refine KO_nil ⟨⟨by (first | exact True.intro | exact Or.inl rfl | exact Or.inr rfl | exact Or.inr (congrArg some (blkOf_elA _ _ _ _)) | exact ⟨Or.inl rfl, rfl⟩ | exact ⟨Or.inr rfl, rfl⟩), rfl⟩, ?_⟩) | (refine lEB S ?_ <;> refine KO_nil ⟨⟨by (first | exact True.intro | exact Or.inl rfl | exact Or.inr rfl | exact Or.inr (congrArg some (blkOf_elA _ _ _ _)) | exact ⟨Or.inl rfl, rfl⟩ | exact ⟨Or.inr rfl, rfl⟩), rfl⟩, ?_⟩) | (refine lH S ?_ <;> refine KO_nil ⟨⟨by (first | exact True.intro | exact Or.inl rfl | exact Or.inr rfl | exact Or.inr (congrArg some (blkOf_elA _ _ _ _)) | exact ⟨Or.inl rfl, rfl⟩ | exact ⟨Or.inr rfl, rfl⟩), rfl⟩, ?_⟩)); refine KX_cons ?_; (first | (refine off ?_; refine KO_nil ⟨⟨by (first | exact True.intro | exact Or.inl rfl | exact Or.inr rfl | exact Or.inr (congrArg some (blkOf_elA _ _ _ _)) | exact ⟨Or.inl rfl, rfl⟩ | exact ⟨Or.inr rfl, rfl⟩), rfl⟩, ?_⟩) | (refine mv ?_ <;> refine KO_nil ⟨⟨by (first | exact True.intro | exact Or.inl rfl | exact Or.inr rfl | exact Or.inr (congrArg some (blkOf_elA _ _ _ _)) | exact ⟨Or.inl rfl, rfl⟩ | exact ⟨Or.inr rfl, rfl⟩), rfl⟩, ?_⟩)); refine KX_cons ?_; (first | (refine off ?_; refine KO_nil ⟨⟨by (first | exact True.intro | exact Or.inl rfl | exact Or.inr rfl | exact Or.inr (congrArg some (blkOf_elA _ _ _ _)) | exact ⟨Or.inl rfl, rfl⟩ | exact ⟨Or.inr rfl, rfl⟩), rfl⟩, ?_⟩) | (refine mv ?_ <;> refine KO_nil ⟨⟨by (first | exact True.intro | exact Or.inl rfl | exact Or.inr rfl | exact Or.inr (congrArg some (blkOf_elA _ _ _ _)) | exact ⟨Or.inl rfl, rfl⟩ | exact ⟨Or.inr rfl, rfl⟩), rfl⟩, ?_⟩)); refine KX_cons ?_; (first | (refine off ?_; refine KO_nil ⟨⟨by (first | exact True.intro | exact Or.inl rfl | exact Or.inr rfl | exact Or.inr (congrArg some (blkOf_elA _ _ _ _)) | exact ⟨Or.inl rfl, rfl⟩ | exact ⟨Or.inr rfl, rfl⟩), rfl⟩, ?_⟩) | (refine ixB S ?_ <;> refine KO_nil ⟨⟨by (first | exact True.intro | exact Or.inl rfl | exact Or.inr rfl | exact Or.inr (congrArg some (blkOf_elA _ _ _ _)) | exact ⟨Or.inl rfl, rfl⟩ | exact ⟨Or.inr rfl, rfl⟩), rfl⟩, ?_⟩) | (refine ixS2 S rfl rfl ?_ <;> refine KO_nil ⟨⟨by (first | exact True.intro | exact Or.inl rfl | exact Or.inr rfl | exact Or.inr (congrArg some (blkOf_elA _ _ _ _)) | exact ⟨Or.inl rfl, rfl⟩ | exact ⟨Or.inr rfl, rfl⟩), rfl⟩, ?_⟩)); refine KX_cons ?_; (first | (refine off ?_; refine KO_nil ⟨⟨by (first | exact True.intro | exact Or.inl rfl | exact Or.inr rfl | exact Or.inr (congrArg some (blkOf_elA _ _ _ _)) | exact ⟨Or.inl rfl, rfl⟩ | exact ⟨Or.inr rfl, rfl⟩), rfl⟩, ?_⟩) | (refine lB S rfl rfl ?_ <;> refine KO_nil ⟨⟨by (first | exact True.intro | exact Or.inl rfl | exact Or.inr rfl | exact Or.inr (congrArg some (blkOf_elA _ _ _ _)) | exact ⟨Or.inl rfl, rfl⟩ | exact ⟨Or.inr rfl, rfl⟩), rfl⟩, ?_⟩) | (refine lES2 S rfl rfl ?_ <;> refine KO_nil ⟨⟨by (first | exact True.intro | exact Or.inl rfl | exact Or.inr rfl | exact Or.inr (congrArg some (blkOf_elA _ _ _ _)) | exact ⟨Or.inl rfl, rfl⟩ | exact ⟨Or.inr rfl, rfl⟩), rfl⟩, ?_⟩) | (refine lEB S ?_ <;> refine KO_nil ⟨⟨by (first | exact True.intro | exact Or.inl rfl | exact Or.inr rfl | exact Or.inr (congrArg some (blkOf_elA _ _ _ _)) | exact ⟨Or.inl rfl, rfl⟩ | exact ⟨Or.inr rfl, rfl⟩), rfl⟩, ?_⟩) | (refine lH S ?_ <;> refine KO_nil ⟨⟨by (first | exact True.intro | exact Or.inl rfl | exact Or.inr rfl | exact Or.inr (congrArg some (blkOf_elA _ _ _ _)) | exact ⟨Or.inl rfl, rfl⟩ | exact ⟨Or.inr rfl, rfl⟩), rfl⟩, ?_⟩)); refine KX_cons ?_; (first | (refine off ?_; refine KO_nil ⟨⟨by (first | exact True.intro | exact Or.inl rfl | exact Or.inr rfl | exact Or.inr (congrArg some (blkOf_elA _ _ _ _)) | exact ⟨Or.inl rfl, rfl⟩ | exact ⟨Or.inr rfl, rfl⟩), rfl⟩, ?_⟩) | (refine mv ?_ <;> refine KO_nil ⟨⟨by (first | exact True.intro | exact Or.inl rfl | exact Or.inr rfl | exact Or.inr (congrArg some (blkOf_elA _ _ _ _)) | exact ⟨Or.inl rfl, rfl⟩ | exact ⟨Or.inr rfl, rfl⟩), rfl⟩, ?_⟩)); refine KX_cons ?_; (first | (refine off ?_; refine KO_nil ⟨⟨by (first | exact True.intro | exact Or.inl rfl | exact Or.inr rfl | exact Or.inr (congrArg some (blkOf_elA _ _ _ _)) | exact ⟨Or.inl rfl, rfl⟩ | exact ⟨Or.inr rfl, rfl⟩), rfl⟩, ?_⟩) | (refine mv ?_ <;> refine KO_nil ⟨⟨by (first | exact True.intro | exact Or.inl rfl | exact Or.inr rfl | exact Or.inr (congrArg some (blkOf_elA _ _ _ _)) | exact ⟨Or.inl rfl, rfl⟩ | exact ⟨Or.inr rfl, rfl⟩), rfl⟩, ?_⟩)); refine KX_cons ?_; (first | (refine off ?_; refine KO_nil ⟨⟨by (first | exact True.intro | exact Or.inl rfl | exact Or.inr rfl | exact Or.inr (congrArg some (blkOf_elA _ _ _ _)) | exact ⟨Or.inl rfl, rfl⟩ | exact ⟨Or.inr rfl, rfl⟩), rfl⟩, ?_⟩) | (refine ixB S ?_ <;> refine KO_nil ⟨⟨by (first | exact True.intro | exact Or.inl rfl | exact Or.inr rfl | exact Or.inr (congrArg some (blkOf_elA _ _ _ _)) | exact ⟨Or.inl rfl, rfl⟩ | exact ⟨Or.inr rfl, rfl⟩), rfl⟩, ?_⟩) | (refine ixS2 S rfl rfl ?_ <;> refine KO_nil ⟨⟨by (first | exact True.intro | exact Or.inl rfl | exact Or.inr rfl | exact Or.inr (congrArg some (blkOf_elA _ _ _ _)) | exact ⟨Or.inl rfl, rfl⟩ | exact ⟨Or.inr rfl, rfl⟩), rfl⟩, ?_⟩)); refine KX_cons ?_; (first | (refine off ?_; refine KO_nil ⟨⟨by (first | exact True.intro | exact Or.inl rfl | exact Or.inr rfl | exact Or.inr (congrArg some (blkOf_elA _ _ _ _)) | exact ⟨Or.inl rfl, rfl⟩ | exact ⟨Or.inr rfl, rfl⟩), rfl⟩, ?_⟩) | (refine lB S rfl rfl ?_ <;> refine KO_nil ⟨⟨by (first | exact True.intro | exact Or.inl rfl | exact Or.inr rfl | exact Or.inr (congrArg some (blkOf_elA _ _ _ _)) | exact ⟨Or.inl rfl, rfl⟩ | exact ⟨Or.inr rfl, rfl⟩), rfl⟩, ?_⟩) | (refine lES2 S rfl rfl ?_ <;> refine KO_nil ⟨⟨by (first | exact True.intro | exact Or.inl rfl | exact Or.inr rfl | exact Or.inr (congrArg some (blkOf_elA _ _ _ _)) | exact ⟨Or.inl rfl, rfl⟩ | exact ⟨Or.inr rfl, rfl⟩), rfl⟩, ?_⟩) | (refine lEB S ?_ <;> refine KO_nil ⟨⟨by (first | exact True.intro | exact Or.inl rfl | exact Or.inr rfl | exact Or.inr (congrArg some (blkOf_elA _ _ _ _)) | exact ⟨Or.inl rfl, rfl⟩ | exact ⟨Or.inr rfl, rfl⟩), rfl⟩, ?_⟩) | (refine lH S ?_ <;> refine KO_nil ⟨⟨by (first | exact True.intro | exact Or.inl rfl | exact Or.inr rfl | exact Or.inr (congrArg some (blkOf_elA _ _ _ _)) | exact ⟨Or.inl rfl, rfl⟩ | exact ⟨Or.inr rfl, rfl⟩), rfl⟩, ?_⟩)); (first | (refine KX_cons ?_; refine off ?_; refine KO_nil ⟨⟨True.intro, by show keepsX _ _ _ _ _; simp [keepsX]⟩, ?_⟩; refine KX_cons ?_; (first | (refine off ?_; refine KO_nil ⟨⟨by (first | exact True.intro | exact Or.inl rfl | exact Or.inr rfl | exact Or.inr (congrArg some (blkOf_elA _ _ _ _)) | exact ⟨Or.inl rfl, rfl⟩ | exact ⟨Or.inr rfl, rfl⟩), rfl⟩, ?_⟩) | (refine vl ?_ <;> refine KO_nil ⟨⟨by (first | exact True.intro | exact Or.inl rfl | exact Or.inr rfl | exact Or.inr (congrArg some (blkOf_elA _ _ _ _)) | exact ⟨Or.inl rfl, rfl⟩ | exact ⟨Or.inr rfl, rfl⟩), rfl⟩, ?_⟩)); refine KX_cons ?_; (first | (refine vl ?_ <;> refine KO_nil ⟨⟨by (first | exact True.intro | exact Or.inl rfl | exact Or.inr rfl | exact Or.inr (congrArg some (blkOf_elA _ _ _ _)) | exact ⟨Or.inl rfl, rfl⟩ | exact ⟨Or.inr rfl, rfl⟩), rfl⟩, ?_⟩)); refine KX_nil ?_) | skip))
        all_goals (try simp only [Int.toNat_natCast])
        all_goals (((refine KX_cons ?_; first | refine KO_fn rfl rfl rfl rfl rfl ((acrossAt_ok S.wf t (pAt p k) (pAt p m) hs hbk hbm).mono ?_)); rintro _ h ⟨⟨rfl, ha2⟩ | ⟨rfl, ha2⟩, x⟩) <;> ((refine KO_nil ⟨⟨True.intro, ?_⟩, ?_⟩; (focus ((show keepsX _ _ _ _ _; simp only [keepsX]; (repeat' (first | exact True.intro | refine And.intro ?_ ?_)); all_goals (intro hw; first | exact True.intro | exact rfl | exact x.ext.old _ S.bB | exact x.ext.old _ (S.bR (by first | omega | grind)) | exact x.ext.old _ (S.bX (by assumption) (by assumption) (by first | omega | grind)) | exact x.ext.old _ (S.bY (by assumption) (by assumption)) | (refine x.ext.old _ ?_; assumption) | exact absurd hw (by decide +kernel)))))); replace S := S.join0 x; clear x; refine KX_cons ?_; (first | (refine off ?_; refine KO_nil ⟨⟨by (first | exact True.intro | exact Or.inl rfl | exact Or.inr rfl | exact Or.inr (congrArg some (blkOf_elA _ _ _ _)) | exact ⟨Or.inl rfl, rfl⟩ | exact ⟨Or.inr rfl, rfl⟩), rfl⟩, ?_⟩) | (refine vl ?_ <;> refine KO_nil ⟨⟨by (first | exact True.intro | exact Or.inl rfl | exact Or.inr rfl | exact Or.inr (congrArg some (blkOf_elA _ _ _ _)) | exact ⟨Or.inl rfl, rfl⟩ | exact ⟨Or.inr rfl, rfl⟩), rfl⟩, ?_⟩)); refine KX_cons ?_; (first | (refine vl ?_ <;> refine KO_nil ⟨⟨by (first | exact True.intro | exact Or.inl rfl | exact Or.inr rfl | exact Or.inr (congrArg some (blkOf_elA _ _ _ _)) | exact ⟨Or.inl rfl, rfl⟩ | exact ⟨Or.inr rfl, rfl⟩), rfl⟩, ?_⟩)); refine KX_nil ?_))
        all_goals (all_goals (repeat' (first | refine K_seq ?_ | refine k_cond rfl ?_ | refine K_skip ?_ | refine K_exit ?_ | refine k_block ?_ | refine K_scope ?_ | (refine K_region (id := 8) ?_; refine mv ?_; (first | refine ad ?_ | refine vl ?_); refine mv ?_; refine KO_nil ?_) | (refine K_region (id := 10) ?_; refine mv ?_; refine KO_nil ?_))))
        · refine ⟨m + 1, ?_, ?_, (by repeat (first | exact Ks.le_nil _ | refine Ks.le_cons rfl ?_ | refine Ks.le_int ?_))⟩
          · show p.length - (m + 1) < p.length - m; omega
          · exact ⟨S, by omega, nxt g2 ⟨⟨fun q => absurd q ho, fun q => absurd q ho2⟩, ⟨fun _ => ha2, fun _ => ha⟩⟩⟩
        · refine K_ret ⟨_, rfl, ?_⟩
          exact ⟨.inr ⟨rfl, fun q => ha2 (((q k hk).2 m hm).2.1 ha)⟩, S.drop⟩
        · refine K_ret ⟨_, rfl, ?_⟩
          exact ⟨.inr ⟨rfl, fun q => ha (((q k hk).2 m hm).2.2 ha2)⟩, S.drop⟩
        · refine ⟨m + 1, ?_, ?_, (by repeat (first | exact Ks.le_nil _ | refine Ks.le_cons rfl ?_ | refine Ks.le_int ?_))⟩
          · show p.length - (m + 1) < p.length - m; omega
          · exact ⟨S, by omega, nxt g2 ⟨⟨fun q => absurd q ho, fun q => absurd q ho2⟩, ⟨fun q => absurd q ha, fun q => absurd q ha2⟩⟩⟩
    · have hmk : m = p.length := by omega
      subst hmk
      all_goals (repeat' (first | refine K_seq ?_ | refine k_cond rfl ?_ | refine K_skip ?_ | refine K_exit ?_ | refine k_block ?_ | refine K_scope ?_ | (refine K_region (id := 3) ?_; refine mv ?_; (first | refine ad ?_ | refine vl ?_); refine mv ?_; refine KO_nil ?_)))
      refine ⟨k + 1, ?_, ?_, (by repeat (first | exact Ks.le_nil _ | refine Ks.le_cons rfl ?_ | refine Ks.le_int ?_))⟩
      · show p.length - (k + 1) < p.length - k; omega
      · exact ⟨S, by omega, nxt h2 ⟨hop, g2⟩⟩
  · skip
    all_goals (repeat' (first | refine K_seq ?_ | refine k_cond rfl ?_ | refine K_skip ?_ | refine K_exit ?_ | refine k_block ?_ | refine K_scope ?_ | (refine K_region (id := 11) ?_; refine mv ?_; refine KO_nil ?_)))
    refine K_ret ⟨_, rfl, ?_⟩
    exact ⟨.inl ⟨rfl, fun k hk => h2 k (by omega)⟩, S.drop⟩
theorem refCompare_ok {h0 : AH} (w : WfH h0) (v u : Value) (a b : List Int) (hv : RdL h0 v 1 eI a) (hu : RdL h0 u 1 eI b) (ha : a.length ≤ 1000000) (hb : b.length ≤ 1000000) : Fn Tryz.prog Xh 126 [v, u] h0 (fun r h' => ∃ d, r = .int .i64 d ∧ CmpR d a b ∧ Hs h0 h' []) := by
  have S := Hs.start w
  have tail : ∀ i, i ≤ a.length → i ≤ b.length → (i = a.length ∨ i = b.length) → CmpR ((a.length : Int) - b.length) (a.drop i) (b.drop i) := by
    intro i h1 h2 h3
    rcases Nat.lt_trichotomy a.length b.length with q | q | q
    · rw [List.drop_of_length_le (l := a) (by omega), drop_cons (l := b) (by omega)]
      exact .inl ⟨by omega, trivial⟩
    · rw [List.drop_of_length_le (l := a) (by omega), List.drop_of_length_le (l := b) (by omega)]
      exact .inr (.inl ⟨by omega, rfl⟩)
    · rw [drop_cons (l := a) (by omega), List.drop_of_length_le (l := b) (by omega)]
      exact .inr (.inr ⟨by omega, trivial⟩)
  refine Fn_K rfl Tryz.func126 rfl rfl ?_
  all_goals (repeat' (first | refine K_seq ?_ | refine k_cond rfl ?_ | refine K_skip ?_ | refine K_exit ?_ | refine k_block ?_ | refine K_scope ?_ | (refine K_region (id := 0) ?_; refine mv ?_; refine KO_nil ?_) | (refine K_region (id := 1) ?_; refine mv ?_; refine KO_nil ?_)))
  refine k_loop (σ := Nat) (fun i h' => Hs h0 h' [] ∧ i ≤ a.length ∧ i ≤ b.length ∧ ∀ d, CmpR d (a.drop i) (b.drop i) → CmpR d a b) (fun i => a.length - i) (fun i => [(0, v), (1, u), (5, .int .i64 i)]) 0 (by repeat (first | exact Ks.le_nil _ | refine Ks.le_cons rfl ?_ | refine Ks.le_int ?_)) ?_ ?_
  · exact ⟨S, Nat.zero_le _, Nat.zero_le _, fun d q => q⟩
  clear S
  rintro i h ⟨S, h1, h2, h3⟩
  all_goals (repeat' (first | refine K_seq ?_ | refine k_cond rfl ?_ | refine K_skip ?_ | refine K_exit ?_ | refine k_block ?_ | refine K_scope ?_ | (refine K_region (id := 2) ?_; refine mv ?_; refine mv ?_; (first | refine lnB S ?_ | refine lnS S rfl rfl ?_); (first | refine cT ?_ | refine cF ?_ | (refine cS ?_ ?_ <;> intro hc)) <;> (refine mv ?_; (first | refine off ?_ | refine mv ?_); (first | refine off ?_ | refine mv ?_); (first | refine off ?_ | (first | refine lnB S ?_ | refine lnS S rfl rfl ?_)); (first | refine off ?_ | (first | refine cT ?_ | refine cF ?_ | (refine cS ?_ ?_ <;> intro hc))) <;> (refine vl ?_; refine KO_nil ?_))) | (refine K_region (id := 3) ?_; refine mv ?_; (first | refine ad ?_ | refine vl ?_); refine mv ?_; refine KO_nil ?_) | (refine K_draw (id := 4) ?_; refine mv ?_; refine mv ?_; (first | refine ixB S ?_ | refine ixS2 S rfl rfl ?_); (first | refine lB S rfl rfl ?_ | refine lES2 S rfl rfl ?_ | refine lEB S ?_ | refine lH S ?_); refine mv ?_; refine mv ?_; (first | refine ixB S ?_ | refine ixS2 S rfl rfl ?_); (first | refine lB S rfl rfl ?_ | refine lES2 S rfl rfl ?_ | refine lEB S ?_ | refine lH S ?_); (first | refine cT ?_ | refine cF ?_ | (refine cS ?_ ?_ <;> intro hc)) <;> (refine KO_nil ?_)) | (refine K_region (id := 5) ?_; refine mv ?_; refine KO_nil ?_) | (refine K_draw (id := 6) ?_; refine mv ?_; refine mv ?_; (first | refine ixB S ?_ | refine ixS2 S rfl rfl ?_); (first | refine lB S rfl rfl ?_ | refine lES2 S rfl rfl ?_ | refine lEB S ?_ | refine lH S ?_); refine mv ?_; refine mv ?_; (first | refine ixB S ?_ | refine ixS2 S rfl rfl ?_); (first | refine lB S rfl rfl ?_ | refine lES2 S rfl rfl ?_ | refine lEB S ?_ | refine lH S ?_); (first | refine cT ?_ | refine cF ?_ | (refine cS ?_ ?_ <;> intro hc)) <;> (refine KO_nil ?_)) | (refine K_region (id := 7) ?_; refine mv ?_; refine KO_nil ?_) | (refine K_region (id := 8) ?_; refine mv ?_; (first | refine lnB S ?_ | refine lnS S rfl rfl ?_); refine mv ?_; (first | refine lnB S ?_ | refine lnS S rfl rfl ?_); (first | refine sb ?_ | refine vl ?_); refine mv ?_; refine KO_nil ?_)))
  all_goals (try simp only [Int.toNat_natCast] at *)
  · refine K_ret ⟨_, rfl, ?_⟩
    refine ⟨-1, rfl, h3 _ ?_, S⟩
    rw [drop_cons (l := a) (by omega), drop_cons (l := b) (by omega)]
    exact .inl ⟨by omega, .inl (by assumption)⟩
  · refine K_ret ⟨_, rfl, ?_⟩
    refine ⟨1, rfl, h3 _ ?_, S⟩
    rw [drop_cons (l := a) (by omega), drop_cons (l := b) (by omega)]
    exact .inr (.inr ⟨by omega, .inl (by omega)⟩)
  · refine ⟨i + 1, ?_, ?_, (by repeat (first | exact Ks.le_nil _ | refine Ks.le_cons rfl ?_ | refine Ks.le_int ?_))⟩
    · show a.length - (i + 1) < a.length - i; omega
    · exact ⟨S, by omega, by omega, CmpR.step h3 (by omega) (by omega) (by omega)⟩
  all_goals (refine K_ret ⟨_, rfl, ?_⟩)
  all_goals exact ⟨_, rfl, h3 _ (tail i h1 h2 (by omega)), S⟩
end Go.Proofs.Xx

/-
  Sorted lists of lists: putting in, looking up.
-/
namespace Go.Proofs.Xx
open Go Go.Proofs
set_option linter.unusedSimpArgs false
set_option linter.unusedVariables false

abbrev lAt (ls : List (List Int)) (i : Nat) : List Int := ls.getD i default
theorem lAt_mem {ls : List (List Int)} {p : List Int} : p ∈ ls ↔ ∃ i, i < ls.length ∧ lAt ls i = p := by
  rw [List.mem_iff_getElem]
  constructor
  · rintro ⟨k, hk, rfl⟩; exact ⟨k, hk, by simp [lAt, List.getD_eq_getElem?_getD, hk]⟩
  · rintro ⟨k, hk, rfl⟩; exact ⟨k, hk, by simp [lAt, List.getD_eq_getElem?_getD, hk]⟩
theorem pw_at {ls : List (List Int)} (h : ls.Pairwise ltL) {i j : Nat} (hij : i < j) (hj : j < ls.length) : ltL (lAt ls i) (lAt ls j) := by
  have := List.pairwise_iff_getElem.1 h i j (by omega) hj hij
  simpa [lAt, List.getD_eq_getElem?_getD, hj, show i < ls.length by omega] using this
/-- A list put in where it belongs. -/
theorem ins_mem {ls : List (List Int)} {p x : List Int} {at_ : Nat} : x ∈ ls.take at_ ++ [p] ++ ls.drop at_ ↔ x = p ∨ x ∈ ls := by
  have e : x ∈ ls ↔ x ∈ ls.take at_ ∨ x ∈ ls.drop at_ := by rw [← List.mem_append, List.take_append_drop]
  rw [e]
  simp only [List.mem_append, List.mem_singleton]
  constructor
  · rintro ((h | h) | h)
    · exact .inr (.inl h)
    · exact .inl h
    · exact .inr (.inr h)
  · rintro (h | h | h)
    · exact .inl (.inr h)
    · exact .inl (.inl h)
    · exact .inr h
theorem ins_pw {ls : List (List Int)} {p : List Int} {at_ : Nat} (h : ls.Pairwise ltL) (lo : ∀ i, i < at_ → i < ls.length → ltL (lAt ls i) p) (hi : at_ < ls.length → ltL p (lAt ls at_)) : (ls.take at_ ++ [p] ++ ls.drop at_).Pairwise ltL := by
  have e : ls.Pairwise ltL ↔ (ls.take at_ ++ ls.drop at_).Pairwise ltL := by rw [List.take_append_drop]
  have h' := List.pairwise_append.1 (e.1 h)
  have L : ∀ x, x ∈ ls.take at_ → ltL x p := fun x hx => by
    obtain ⟨i, hi, rfl⟩ := List.mem_iff_getElem.1 hx
    rw [List.length_take] at hi
    have := lo i (by omega) (by omega)
    simpa [lAt, List.getD_eq_getElem?_getD, show i < ls.length by omega] using this
  have R : ∀ x, x ∈ ls.drop at_ → ltL p x := fun x hx => by
    obtain ⟨i, hi', rfl⟩ := List.mem_iff_getElem.1 hx
    rw [List.length_drop] at hi'
    have h1 := hi (by omega)
    rcases Nat.eq_zero_or_pos i with rfl | z
    · simpa [lAt, List.getD_eq_getElem?_getD, show at_ < ls.length by omega] using h1
    · have := ltL_trans h1 (pw_at h (i := at_) (j := at_ + i) (by omega) (by omega))
      simpa [lAt, List.getD_eq_getElem?_getD, show at_ + i < ls.length by omega] using this
  rw [List.append_assoc]
  refine List.pairwise_append.2 ⟨h'.1, ?_, ?_⟩
  · rw [List.singleton_append, List.pairwise_cons]
    exact ⟨R, h'.2.1⟩
  · intro x hx y hy
    rw [List.singleton_append] at hy
    rcases List.mem_cons.1 hy with rfl | hy
    · exact L x hx
    · exact h'.2.2 x hx y hy
/-- What a binary search finds. -/
theorem found {ls : List (List Int)} {p : List Int} (h : ls.Pairwise ltL) {i : Nat} (lo : ∀ j, j < i → ltL (lAt ls j) p) (hi : ∀ j, i ≤ j → j < ls.length → ¬ ltL (lAt ls j) p) : (i < ls.length ∧ lAt ls i = p) ↔ p ∈ ls := by
  rw [lAt_mem]
  constructor
  · exact fun h => ⟨i, h.1, h.2⟩
  · rintro ⟨j, hj, rfl⟩
    rcases Nat.lt_trichotomy j i with q | rfl | q
    · exact absurd (lo j q) (ltL_irr _)
    · exact ⟨hj, rfl⟩
    · exact absurd (pw_at h q hj) (hi i (Nat.le_refl _) (by omega))
end Go.Proofs.Xx
