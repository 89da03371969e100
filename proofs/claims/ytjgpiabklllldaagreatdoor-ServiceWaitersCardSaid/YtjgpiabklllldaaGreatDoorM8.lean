/-
  Guests; the check of a guest, the program's and the reference's.
-/
import Derived.Test.YtjgpiabklllldaaGreatDoorM7
import Derived.Test.YtjgpiabklllldaaGreatDoorM6
namespace Go.Proofs.Xx
set_option linter.unusedSectionVars false
open Go Go.Proofs
set_option linter.unusedSimpArgs false
set_option linter.unusedVariables false
set_option maxRecDepth 100000
structure Gu where
 name : List UInt8
 rank : List UInt8
 court : List UInt8
 since : Int
 side : Int
 diet : List UInt8
 host : Bool
 access : Bool
 tg : List (List UInt8)
instance : Inhabited Gu := ⟨⟨[], [], [], 0, 0, [], false, false, []⟩⟩
structure Gst extends Gu where
 tv : SlV
instance : Inhabited Gst := ⟨⟨default, ⟨none, 0, 0⟩⟩⟩
def gV (g : Gst) : Value := .agg #[str g.name, str g.rank, str g.court, .int .i64 g.since, .int .i64 g.side, str g.diet, .bool g.host, .bool g.access, g.tv.val]
def eG (g : Gst) : List Value := [str g.name, str g.rank, str g.court, .int .i64 g.since, .int .i64 g.side, str g.diet, .bool g.host, .bool g.access, g.tv.val]
def GstR (h : AH) (g : Gst) : Prop := RdL h g.tv.val 1 eS g.tg ∧ g.tg.length ≤ 9223372036854775807
def TgOk (l : List (List UInt8)) : Prop := ∀ i, i < l.length → nameP (l.getD i default) ∧ (0 < i → sLt (l.getD (i - 1) default) (l.getD i default))
def NmsOk (g : Gu) : Prop := nameP g.name ∧ someP g.rank ∧ someP g.court ∧ someP g.diet
open Classical in
noncomputable def chkG (g : Gu) : Int :=
 if ¬ NmsOk g then 4
 else if ¬ (0 ≤ g.since ∧ g.since ≤ 9999) then 21
 else if ¬ (0 ≤ g.side ∧ g.side ≤ 2) then 20
 else if ¬ (g.tg.length ≤ 4 ∧ TgOk g.tg) then 22
 else 0
theorem chkG_4 {g : Gu} (h : ¬ NmsOk g) : chkG g = 4 := by unfold chkG; rw [if_pos h]
theorem chkG_21 {g : Gu} (h : NmsOk g) (h2 : ¬ (0 ≤ g.since ∧ g.since ≤ 9999)) : chkG g = 21 := by unfold chkG; rw [if_neg (by simpa using h), if_pos h2]
theorem chkG_20 {g : Gu} (h : NmsOk g) (h2 : 0 ≤ g.since ∧ g.since ≤ 9999) (h3 : ¬ (0 ≤ g.side ∧ g.side ≤ 2)) : chkG g = 20 := by
 unfold chkG; rw [if_neg (by simpa using h), if_neg (by simpa using h2), if_pos h3]
theorem chkG_22 {g : Gu} (h : NmsOk g) (h2 : 0 ≤ g.since ∧ g.since ≤ 9999) (h3 : 0 ≤ g.side ∧ g.side ≤ 2) (h4 : ¬ (g.tg.length ≤ 4 ∧ TgOk g.tg)) : chkG g = 22 := by
 unfold chkG; rw [if_neg (by simpa using h), if_neg (by simpa using h2), if_neg (by simpa using h3), if_pos h4]
theorem chkG_0 {g : Gu} (h : NmsOk g) (h2 : 0 ≤ g.since ∧ g.since ≤ 9999) (h3 : 0 ≤ g.side ∧ g.side ≤ 2) (h4 : g.tg.length ≤ 4 ∧ TgOk g.tg) : chkG g = 0 := by
 unfold chkG; rw [if_neg (by simpa using h), if_neg (by simpa using h2), if_neg (by simpa using h3), if_neg (by simpa using h4)]
variable [Flag]
theorem check_ok {h0 : AH} (w : WfH h0) (g : Gst) (r : GstR h0 g) : Fn Tryz.prog Xh 280 [gV g] h0 (fun v h' => v = .int .i64 (chkG g.toGu) ∧ Hs h0 h' []) := by
 have S := Hs.start w
 have hr : RdL h0 g.tv.val 1 eS g.tg := r.1
 have hbig := r.2
 unfold gV
 refine Fn_K (by first | rfl) Tryz.func280 rfl rfl ?_
 all_goals (repeat' (first | refine K_seq ?_ | refine k_block ?_ | (refine K_region (id := 0) ?_; (refine bx S ?_; clear S; intro b h S); refine mv ?_; refine KO_nil ?_)))
 all_goals (repeat' (first | (refine K_region (id := 1) ?_; refine vl ?_; refine lB S rfl rfl ?_)))
 (refine KO_fn rfl rfl rfl rfl rfl ((name_ok g.name).mono ?_); rintro _ _ ⟨⟨rfl, q1⟩ | ⟨rfl, q1⟩, rfl⟩) <;> (refine vl ?_; refine mv ?_; (first | refine off ?_ | (refine vl ?_)); (first | refine off ?_ | (refine lB S rfl rfl ?_)); (first | (refine off ?_; refine off ?_; refine vl ?_; refine mv ?_; refine off ?_; refine off ?_; (first | (refine off ?_; refine off ?_; refine vl ?_; refine mv ?_; refine off ?_; refine off ?_; (first | (refine off ?_; refine off ?_; refine vl ?_; refine mv ?_; refine KO_nil ?_))))) | skip))
 any_goals ((refine KO_fn rfl rfl rfl rfl rfl ((some_ok g.rank).mono ?_); rintro _ _ ⟨⟨rfl, q2⟩ | ⟨rfl, q2⟩, rfl⟩) <;> ((refine vl ?_); refine vl ?_; refine mv ?_; (first | refine off ?_ | (refine vl ?_)); (first | refine off ?_ | (refine lB S rfl rfl ?_)); (first | (refine off ?_; refine off ?_; refine vl ?_; refine mv ?_; refine off ?_; refine off ?_; (first | (refine off ?_; refine off ?_; refine vl ?_; refine mv ?_; refine KO_nil ?_))) | skip)))
 any_goals ((refine KO_fn rfl rfl rfl rfl rfl ((some_ok g.court).mono ?_); rintro _ _ ⟨⟨rfl, q3⟩ | ⟨rfl, q3⟩, rfl⟩) <;> ((refine vl ?_); refine vl ?_; refine mv ?_; (first | refine off ?_ | (refine vl ?_)); (first | refine off ?_ | (refine lB S rfl rfl ?_)); (first | (refine off ?_; refine off ?_; refine vl ?_; refine mv ?_; refine KO_nil ?_) | skip)))
 any_goals ((refine KO_fn rfl rfl rfl rfl rfl ((some_ok g.diet).mono ?_); rintro _ _ ⟨⟨rfl, q4⟩ | ⟨rfl, q4⟩, rfl⟩) <;> ((refine vl ?_); refine vl ?_; refine mv ?_; refine KO_nil ?_))
 all_goals (repeat' (first | refine K_seq ?_ | refine k_cond rfl ?_ | refine K_skip ?_ | refine k_block ?_ | (refine K_region (id := 2) ?_; refine mv ?_; refine KO_nil ?_) | (refine K_region (id := 3) ?_; refine vl ?_; refine lB S rfl rfl ?_; (first | (refine cS ?_ ?_ <;> intro hc)) <;> (refine mv ?_; (first | refine off ?_ | (refine vl ?_)); (first | refine off ?_ | (refine lB S rfl rfl ?_)); (first | refine off ?_ | (first | (refine cS ?_ ?_ <;> intro hc))) <;> (refine vl ?_; refine mv ?_; refine KO_nil ?_))) | (refine K_region (id := 4) ?_; refine mv ?_; refine KO_nil ?_) | (refine K_region (id := 5) ?_; refine vl ?_; refine lB S rfl rfl ?_; (first | (refine cS ?_ ?_ <;> intro hc)) <;> (refine mv ?_; (first | refine off ?_ | (refine vl ?_)); (first | refine off ?_ | (refine lB S rfl rfl ?_)); (first | refine off ?_ | (first | (refine cS ?_ ?_ <;> intro hc))) <;> (refine vl ?_; refine mv ?_; refine KO_nil ?_))) | (refine K_region (id := 6) ?_; refine mv ?_; refine KO_nil ?_) | (refine K_region (id := 7) ?_; refine vl ?_; refine lB S rfl rfl ?_; refine lnB S ?_; (first | (refine cS ?_ ?_ <;> intro hc)) <;> (refine mv ?_; refine KO_nil ?_)) | (refine K_region (id := 8) ?_; refine mv ?_; refine KO_nil ?_) | (refine K_region (id := 9) ?_; refine vl ?_; refine lB S rfl rfl ?_; refine lnB S ?_; refine mv ?_; refine KO_nil ?_)))
 any_goals
  refine K_ret ⟨_, rfl, ?_⟩
  refine ⟨?_, S.drop⟩
  first
   | (rw [chkG_4 (fun q => by unfold NmsOk at q; grind)]; rfl)
   | (rw [chkG_21 ⟨q1, q2, q3, q4⟩ (by omega)]; rfl)
   | (rw [chkG_20 ⟨q1, q2, q3, q4⟩ (by omega) (by omega)]; rfl)
   | (rw [chkG_22 ⟨q1, q2, q3, q4⟩ (by omega) (by omega) (fun q => by have := q.1; omega)]; rfl)
 have h1 : 0 ≤ g.since ∧ g.since ≤ 9999 := by omega
 have h2 : 0 ≤ g.side ∧ g.side ≤ 2 := by omega
 have h3 : g.tg.length ≤ 4 := by omega
 refine k_loop (σ := Nat) (fun i h' => Hs h0 h' [.blk b (eG g) 98] ∧ i ≤ g.tg.length ∧ ∀ j, j < i → nameP (g.tg.getD j default) ∧ (0 < j → sLt (g.tg.getD (j - 1) default) (g.tg.getD j default))) (fun i => g.tg.length - i) (fun i => [(1, .pointer (some ⟨b, 0, none⟩)), (52, g.tv.val), (53, .int .i64 g.tg.length), (54, .int .i64 i)]) 0 (by repeat (first | exact Ks.le_nil _ | refine Ks.le_cons rfl ?_)) ?_ ?_
 ·exact ⟨S, Nat.zero_le _, fun j hj => absurd hj (Nat.not_lt_zero _)⟩
 clear S
 rintro i h ⟨S, g1, g2⟩
 all_goals (repeat' (first | refine K_seq ?_ | refine k_cond rfl ?_ | refine K_skip ?_ | refine K_exit ?_ | refine k_block ?_ | (refine K_region (id := 10) ?_; (first | (refine cS ?_ ?_ <;> intro hc)) <;> (refine KO_nil ?_)) | (refine K_region (id := 11) ?_; refine mv ?_; refine ixB S ?_; refine lEB S ?_; refine mv ?_; refine mv ?_; refine KO_nil ?_) | (refine K_region (id := 12) ?_; refine mv ?_) | (refine K_region (id := 15) ?_; refine mv ?_; refine KO_nil ?_)))
 ·(try simp only [Int.toNat_natCast] at *)
  (refine KO_fn rfl rfl rfl rfl rfl ((name_ok _).mono ?_); rintro _ _ ⟨⟨rfl, q5⟩ | ⟨rfl, q5⟩, rfl⟩) <;> (refine vl ?_; refine mv ?_; (first | refine off ?_ | refine mv ?_); (first | refine off ?_ | (first | (refine cS ?_ ?_ <;> intro hc))) <;> ((first | refine off ?_ | refine mv ?_); (first | refine off ?_ | (refine vl ?_)); (first | refine off ?_ | (refine lB S rfl rfl ?_)); (first | refine off ?_ | refine mv ?_); (first | refine off ?_ | (refine sb ?_)); (first | refine off ?_ | (refine ixB S ?_)); (first | refine off ?_ | (refine lEB S ?_)); (first | refine off ?_ | refine mv ?_); (first | refine off ?_ | (refine tO ?_ ?_ <;> intro hc)) <;> ((first | refine off ?_ | refine vl ?_); refine vl ?_; refine KO_nil ?_)))
  all_goals (all_goals (repeat' (first | refine K_seq ?_ | refine k_cond rfl ?_ | refine K_skip ?_ | (refine K_region (id := 13) ?_; refine mv ?_; refine KO_nil ?_) | (refine K_region (id := 14) ?_; refine ad ?_; refine mv ?_; refine KO_nil ?_))))
  ·refine K_ret ⟨_, rfl, ?_⟩
   rw [show ((i : Int) - 1).toNat = i - 1 by omega] at hc
   exact ⟨by rw [chkG_22 ⟨q1, q2, q3, q4⟩ h1 h2 (fun q => hc ((q.2 i (by omega)).2 (by omega)))]; rfl, S.drop⟩
  ·rw [show ((i : Int) - 1).toNat = i - 1 by omega] at hc
   refine ⟨i + 1, ?_, ?_, (by repeat (first | exact Ks.le_nil _ | refine Ks.le_cons rfl ?_))⟩
   ·show g.tg.length - (i + 1) < g.tg.length - i; omega
   ·exact ⟨S, by omega, nxtD g2 ⟨q5, fun _ => Classical.not_not.1 hc⟩⟩
  ·refine ⟨i + 1, ?_, ?_, (by repeat (first | exact Ks.le_nil _ | refine Ks.le_cons rfl ?_))⟩
   ·show g.tg.length - (i + 1) < g.tg.length - i; omega
   ·exact ⟨S, by omega, nxtD g2 ⟨q5, fun q => by omega⟩⟩
  ·refine K_ret ⟨_, rfl, ?_⟩
   exact ⟨by rw [chkG_22 ⟨q1, q2, q3, q4⟩ h1 h2 (fun q => q5 (q.2 i (by omega)).1)]; rfl, S.drop⟩
 ·refine K_ret ⟨_, rfl, ?_⟩
  exact ⟨by rw [chkG_0 ⟨q1, q2, q3, q4⟩ h1 h2 ⟨h3, fun j hj => g2 j (by omega)⟩]; rfl, S.drop⟩
theorem refCheck_ok {h0 : AH} (w : WfH h0) (g : Gst) (r : GstR h0 g) : Fn Tryz.prog Xh 148 [gV g] h0 (fun v h' => v = .int .i64 (chkG g.toGu) ∧ Hs h0 h' []) := by
 have S := Hs.start w
 have hr : RdL h0 g.tv.val 1 eS g.tg := r.1
 have hbig := r.2
 unfold gV
 refine Fn_K (by first | rfl) Tryz.func148 rfl rfl ?_
 all_goals (repeat' (first | refine K_seq ?_ | (refine K_region (id := 0) ?_; (refine bx S ?_; clear S; intro b h S); refine mv ?_; refine KO_nil ?_)))
 (repeat (refine K_seq ?_)); first | refine K_join (σ := Unit) (fun _ h' => NmsOk g.toGu ∧ Hs h0 h' [.blk b (eG g) 98]) (fun _ => [(1, .pointer (some ⟨b, 0, none⟩))]) ?_ ?_
 ·all_goals (repeat' (first | (refine K_region (id := 1) ?_; refine vl ?_; refine lB S rfl rfl ?_)))
  (refine KO_fn rfl rfl rfl rfl rfl ((refName_ok g.name).mono ?_); rintro _ _ ⟨⟨rfl, q1⟩ | ⟨rfl, q1⟩, rfl⟩) <;> (refine vl ?_; refine mv ?_; (first | refine off ?_ | (refine vl ?_)); (first | refine off ?_ | (refine lB S rfl rfl ?_)); (first | refine off ?_ | (refine tS ?_ ?_ <;> intro hc)) <;> ((first | refine off ?_ | refine mv ?_); (first | refine off ?_ | (refine vl ?_)); (first | refine off ?_ | (refine lB S rfl rfl ?_)); (first | (refine off ?_; refine off ?_; (first | refine off ?_ | refine vl ?_); refine vl ?_; refine mv ?_; (first | refine off ?_ | (refine vl ?_)); (first | refine off ?_ | (refine lB S rfl rfl ?_)); (first | refine off ?_ | (refine tS ?_ ?_ <;> intro hc)) <;> ((first | refine off ?_ | refine mv ?_); (first | refine off ?_ | (refine vl ?_)); (first | refine off ?_ | (refine lB S rfl rfl ?_)); (first | (refine off ?_; refine off ?_; (first | refine off ?_ | refine vl ?_); refine vl ?_; refine mv ?_; (first | refine off ?_ | (refine vl ?_)); (first | refine off ?_ | (refine lB S rfl rfl ?_)); (first | refine off ?_ | (refine tS ?_ ?_ <;> intro hc)) <;> ((first | refine off ?_ | refine mv ?_); (first | refine off ?_ | (refine vl ?_)); (first | refine off ?_ | (refine lB S rfl rfl ?_)); (first | (refine off ?_; refine off ?_; (first | refine off ?_ | refine vl ?_); refine vl ?_; refine KO_nil ?_) | skip))) | skip))) | skip)))
  any_goals ((refine KO_fn rfl rfl rfl rfl rfl ((refName_ok g.rank).mono ?_); rintro _ _ ⟨⟨rfl, q2⟩ | ⟨rfl, q2⟩, rfl⟩) <;> ((refine vl ?_); refine vl ?_; refine vl ?_; refine mv ?_; (first | refine off ?_ | (refine vl ?_)); (first | refine off ?_ | (refine lB S rfl rfl ?_)); (first | refine off ?_ | (refine tS ?_ ?_ <;> intro hc)) <;> ((first | refine off ?_ | refine mv ?_); (first | refine off ?_ | (refine vl ?_)); (first | refine off ?_ | (refine lB S rfl rfl ?_)); (first | (refine off ?_; refine off ?_; (first | refine off ?_ | refine vl ?_); refine vl ?_; refine mv ?_; (first | refine off ?_ | (refine vl ?_)); (first | refine off ?_ | (refine lB S rfl rfl ?_)); (first | refine off ?_ | (refine tS ?_ ?_ <;> intro hc)) <;> ((first | refine off ?_ | refine mv ?_); (first | refine off ?_ | (refine vl ?_)); (first | refine off ?_ | (refine lB S rfl rfl ?_)); (first | (refine off ?_; refine off ?_; (first | refine off ?_ | refine vl ?_); refine vl ?_; refine KO_nil ?_) | skip))) | skip))))
  any_goals ((refine KO_fn rfl rfl rfl rfl rfl ((refName_ok g.court).mono ?_); rintro _ _ ⟨⟨rfl, q3⟩ | ⟨rfl, q3⟩, rfl⟩) <;> ((refine vl ?_); refine vl ?_; refine vl ?_; refine mv ?_; (first | refine off ?_ | (refine vl ?_)); (first | refine off ?_ | (refine lB S rfl rfl ?_)); (first | refine off ?_ | (refine tS ?_ ?_ <;> intro hc)) <;> ((first | refine off ?_ | refine mv ?_); (first | refine off ?_ | (refine vl ?_)); (first | refine off ?_ | (refine lB S rfl rfl ?_)); (first | (refine off ?_; refine off ?_; (first | refine off ?_ | refine vl ?_); refine vl ?_; refine KO_nil ?_) | skip))))
  any_goals ((refine KO_fn rfl rfl rfl rfl rfl ((refName_ok g.diet).mono ?_); rintro _ _ ⟨⟨rfl, q4⟩ | ⟨rfl, q4⟩, rfl⟩) <;> ((refine vl ?_); refine vl ?_; refine vl ?_; refine KO_nil ?_))
  all_goals (all_goals (repeat' (first | refine K_seq ?_ | refine k_cond rfl ?_ | refine K_skip ?_ | (refine K_region (id := 2) ?_; refine mv ?_; refine KO_nil ?_))))
  any_goals
   refine K_ret ⟨_, rfl, ?_⟩
   refine ⟨?_, S.drop⟩
   rw [chkG_4 (fun q => by unfold NmsOk someP at q; grind)]; rfl
  all_goals exact ⟨(), ⟨by unfold NmsOk someP; grind, S⟩, ((by repeat (first | exact Ks.le_nil _ | refine Ks.le_cons rfl ?_)))⟩
 clear S
 rintro - h ⟨hN, S⟩
 all_goals (repeat' (first | refine K_seq ?_ | refine k_cond rfl ?_ | refine K_skip ?_ | (refine K_region (id := 3) ?_; refine vl ?_; refine lB S rfl rfl ?_; (first | (refine cS ?_ ?_ <;> intro hc)) <;> (refine mv ?_; (first | refine off ?_ | (refine vl ?_)); (first | refine off ?_ | (refine lB S rfl rfl ?_)); (first | refine off ?_ | (first | (refine cS ?_ ?_ <;> intro hc))) <;> (refine vl ?_; refine KO_nil ?_))) | (refine K_region (id := 4) ?_; refine mv ?_; refine KO_nil ?_)))
 any_goals
  refine K_ret ⟨_, rfl, ?_⟩
  refine ⟨?_, S.drop⟩
  rw [chkG_21 hN (by omega)]; rfl
 have h1 : 0 ≤ g.since ∧ g.since ≤ 9999 := by omega
 (repeat (refine K_seq ?_)); first | refine K_join (σ := Unit) (fun _ h' => (0 ≤ g.side ∧ g.side ≤ 2) ∧ Hs h0 h' [.blk b (eG g) 98]) (fun _ => [(1, .pointer (some ⟨b, 0, none⟩))]) ?_ ?_
 ·all_goals (repeat' (first | refine K_seq ?_ | refine k_cond rfl ?_ | refine K_skip ?_ | (refine K_region (id := 5) ?_; refine vl ?_; refine lB S rfl rfl ?_; (first | (refine cS ?_ ?_ <;> intro hc)) <;> (refine mv ?_; (first | refine off ?_ | (refine vl ?_)); (first | refine off ?_ | (refine lB S rfl rfl ?_)); (first | refine off ?_ | (first | (refine cS ?_ ?_ <;> intro hc))) <;> (refine vl ?_; refine mv ?_; (first | refine off ?_ | (refine vl ?_)); (first | refine off ?_ | (refine lB S rfl rfl ?_)); (first | refine off ?_ | (first | (refine cS ?_ ?_ <;> intro hc))) <;> (refine vl ?_; refine KO_nil ?_)))) | (refine K_region (id := 6) ?_; refine mv ?_; refine KO_nil ?_)))
  any_goals
   refine K_ret ⟨_, rfl, ?_⟩
   refine ⟨?_, S.drop⟩
   rw [chkG_20 hN h1 (by omega)]; rfl
  all_goals exact ⟨(), ⟨by omega, S⟩, ((by repeat (first | exact Ks.le_nil _ | refine Ks.le_cons rfl ?_)))⟩
 clear S
 rintro - h ⟨h2, S⟩
 all_goals (repeat' (first | refine K_seq ?_ | refine k_cond rfl ?_ | refine K_skip ?_ | refine k_block ?_ | (refine K_region (id := 7) ?_; refine vl ?_; refine lB S rfl rfl ?_; refine lnB S ?_; (first | (refine cS ?_ ?_ <;> intro hc)) <;> (refine KO_nil ?_)) | (refine K_region (id := 8) ?_; refine mv ?_; refine KO_nil ?_) | (refine K_region (id := 9) ?_; refine mv ?_; refine KO_nil ?_)))
 ·refine K_ret ⟨_, rfl, ?_⟩
  refine ⟨?_, S.drop⟩
  rw [chkG_22 hN h1 h2 (fun q => by have := q.1; omega)]; rfl
 have h3 : g.tg.length ≤ 4 := by omega
 refine k_loop (σ := Nat) (fun i h' => Hs h0 h' [.blk b (eG g) 98] ∧ i ≤ g.tg.length ∧ ∀ j, j < i → nameP (g.tg.getD j default) ∧ (0 < j → sLt (g.tg.getD (j - 1) default) (g.tg.getD j default))) (fun i => g.tg.length - i) (fun i => [(1, .pointer (some ⟨b, 0, none⟩)), (3, .int .i64 i)]) 0 (by repeat (first | exact Ks.le_nil _ | refine Ks.le_cons rfl ?_)) ?_ ?_
 ·exact ⟨S, Nat.zero_le _, fun j hj => absurd hj (Nat.not_lt_zero _)⟩
 clear S
 rintro i h ⟨S, g1, g2⟩
 all_goals (repeat' (first | refine K_seq ?_ | refine k_cond rfl ?_ | refine K_skip ?_ | refine K_exit ?_ | refine k_block ?_ | (refine K_region (id := 10) ?_; refine mv ?_; refine vl ?_; refine lB S rfl rfl ?_; refine lnB S ?_; (first | (refine cS ?_ ?_ <;> intro hc)) <;> (refine KO_nil ?_)) | (refine K_draw (id := 12) ?_; refine vl ?_; refine lB S rfl rfl ?_; refine mv ?_; refine ixB S ?_; refine lEB S ?_) | (refine K_region (id := 14) ?_; refine mv ?_; refine KO_nil ?_)))
 ·(try simp only [Int.toNat_natCast] at *)
  (refine KO_fn rfl rfl rfl rfl rfl ((refName_ok _).mono ?_); rintro _ _ ⟨⟨rfl, q5⟩ | ⟨rfl, q5⟩, rfl⟩) <;> (refine vl ?_; refine mv ?_; (first | refine off ?_ | refine mv ?_); (first | refine off ?_ | (first | (refine cS ?_ ?_ <;> intro hc))) <;> ((first | refine off ?_ | refine mv ?_); (first | refine off ?_ | (refine vl ?_)); (first | refine off ?_ | (refine lB S rfl rfl ?_)); (first | refine off ?_ | refine mv ?_); (first | refine off ?_ | (refine ixB S ?_)); (first | refine off ?_ | (refine lEB S ?_)); (first | refine off ?_ | (refine vl ?_)); (first | refine off ?_ | (refine lB S rfl rfl ?_)); (first | refine off ?_ | refine mv ?_); (first | refine off ?_ | (refine sb ?_)); (first | refine off ?_ | (refine ixB S ?_)); (first | refine off ?_ | (refine lEB S ?_)); (first | refine off ?_ | (refine tO ?_ ?_ <;> intro hc)) <;> ((first | refine off ?_ | refine vl ?_); refine vl ?_; refine KO_nil ?_)))
  all_goals (all_goals (repeat' (first | refine K_seq ?_ | refine k_cond rfl ?_ | refine K_skip ?_ | (refine K_region (id := 11) ?_; refine mv ?_; refine ad ?_; refine mv ?_; refine KO_nil ?_) | (refine K_region (id := 13) ?_; refine mv ?_; refine KO_nil ?_))))
  ·refine K_ret ⟨_, rfl, ?_⟩
   rw [show ((i : Int) - 1).toNat = i - 1 by omega] at hc
   exact ⟨by rw [chkG_22 hN h1 h2 (fun q => hc ((q.2 i (by omega)).2 (by omega)))]; rfl, S.drop⟩
  ·rw [show ((i : Int) - 1).toNat = i - 1 by omega] at hc
   refine ⟨i + 1, ?_, ?_, (by repeat (first | exact Ks.le_nil _ | refine Ks.le_cons rfl ?_))⟩
   ·show g.tg.length - (i + 1) < g.tg.length - i; omega
   ·exact ⟨S, by omega, nxtD g2 ⟨q5, fun _ => Classical.not_not.1 hc⟩⟩
  ·refine ⟨i + 1, ?_, ?_, (by repeat (first | exact Ks.le_nil _ | refine Ks.le_cons rfl ?_))⟩
   ·show g.tg.length - (i + 1) < g.tg.length - i; omega
   ·exact ⟨S, by omega, nxtD g2 ⟨q5, fun q => by omega⟩⟩
  ·refine K_ret ⟨_, rfl, ?_⟩
   exact ⟨by rw [chkG_22 hN h1 h2 (fun q => q5 (q.2 i (by omega)).1)]; rfl, S.drop⟩
 ·refine K_ret ⟨_, rfl, ?_⟩
  exact ⟨by rw [chkG_0 hN h1 h2 ⟨h3, fun j hj => g2 j (by omega)⟩]; rfl, S.drop⟩
end Go.Proofs.Xx
namespace Go.Proofs.Xx
set_option linter.unusedSectionVars false
open Go
set_option linter.unusedSimpArgs false
set_option linter.unusedVariables false
def Star (h : AH) : List Rs → Fp → Prop
 | [], _ => True
 | r :: rs, U => ∃ fp : Fp, r.ok h fp ∧ (∀ b, fp b → U b) ∧ Star h rs (fun b => U b ∧ ¬ fp b)
theorem Star.mono {h : AH} : ∀ {rs : List Rs} {U U' : Fp}, (∀ b, U b → U' b) → Star h rs U → Star h rs U'
 | [], _, _, _, _ => trivial
 | r :: rs, U, U', hu, ⟨fp, h1, h2, h3⟩ => ⟨fp, h1, fun b hb => hu b (h2 b hb), h3.mono fun b hb => ⟨hu b hb.1, hb.2⟩⟩
theorem Star.local {h h' : AH} : ∀ {rs : List Rs} {U : Fp}, Star h rs U → (∀ b, U b → h'.get b = h.get b) → Star h' rs U
 | [], _, _, _ => trivial
 | r :: rs, U, ⟨fp, h1, h2, h3⟩, hs => ⟨fp, h1.local fun b hb => hs b (h2 b hb), h2, h3.local fun b hb => hs b hb.1⟩
theorem Star.sep {lo : Nat} {h : AH} {rs : List Rs} : ∀ {l : List Rs} {U V : Fp}, Star h l U → (∀ b, U b → lo ≤ b ∧ b < h.next ∧ V b) → Sep lo h rs (fun b => V b ∧ ¬ U b) → Sep lo h (l ++ rs) V
 | [], U, V, _, _, k => k.mono fun b hb => hb.1
 | r :: l, U, V, ⟨fp, h1, h2, h3⟩, hu, k => ⟨fp, h1, fun b hb => hu b (h2 b hb), h3.sep (fun b hb => ⟨(hu b hb.1).1, (hu b hb.1).2.1, (hu b hb.1).2.2, hb.2⟩) (k.mono fun b hb => ⟨⟨hb.1, fun q => hb.2 (h2 b q)⟩, fun q => hb.2 q.1⟩)⟩
theorem Sep.star {lo : Nat} {h : AH} {rs : List Rs} : ∀ {l : List Rs} {V : Fp}, Sep lo h (l ++ rs) V → ∃ U : Fp, Star h l U ∧ (∀ b, U b → lo ≤ b ∧ b < h.next ∧ V b) ∧ Sep lo h rs (fun b => V b ∧ ¬ U b)
 | [], V, k => ⟨fun _ => False, trivial, fun b hb => hb.elim, k.mono fun b hb => ⟨hb, id⟩⟩
 | r :: l, V, ⟨fp, h1, h2, h3⟩ => by
  obtain ⟨U, k1, k2, k3⟩ := h3.star
  refine ⟨fun b => fp b ∨ U b, ⟨fp, h1, fun b hb => .inl hb, k1.mono fun b hb => ⟨.inr hb, (k2 b hb).2.2.2⟩⟩, fun b hb => ?_, k3.mono fun b hb => ⟨hb.1.1, fun q => ?_⟩⟩
  ·rcases hb with hb | hb
   ·exact h2 b hb
   ·exact ⟨(k2 b hb).1, (k2 b hb).2.1, (k2 b hb).2.2.1⟩
  ·rcases q with q | q
   ·exact hb.1.2 q
   ·exact hb.2 q
abbrev packR {σ : Type} (φ : σ → Prop) (f : σ → List Rs) : Rs := .any (fun h fp => ∃ s, φ s ∧ Star h (f s) fp)
theorem Hs.unpack {σ : Type} {φ : σ → Prop} {f : σ → List Rs} {h0 h : AH} {rs : List Rs} (S : Hs h0 h (packR φ f :: rs)) : ∃ s, φ s ∧ Hs h0 h (f s ++ rs) := by
 obtain ⟨fp, k1, k2, k3⟩ := S.sep
 obtain ⟨s, hs, hst⟩ := k1 h fun _ _ => rfl
 exact ⟨s, hs, S.ext, hst.sep k2 k3⟩
theorem Hs.pack {σ : Type} {φ : σ → Prop} {f : σ → List Rs} {h0 h : AH} {rs : List Rs} (s : σ) (hs : φ s) (S : Hs h0 h (f s ++ rs)) : Hs h0 h (packR φ f :: rs) := by
 obtain ⟨U, k1, k2, k3⟩ := S.sep.star
 exact ⟨S.ext, U, fun h' q => ⟨s, hs, k1.local q⟩, k2, k3⟩
section
variable {P : Program} {X : Extern} {sz : Nat} {L : Ks} {h h0 : AH} {rs : List Rs} {ops : Array Oper} {os : List Oper} {o : Oper} {R : Ks → AH → Prop}
theorem tk {α : Type} {x hi : Operand} {ty e : TypeId} {v vh : Value} {z : Nat} {enc : α → List Value} {l : List α} {f : Rs → List Rs} {dd : List Rs} {d : Tmp} (b : Nat) (S : Hs h0 h rs) (ho : o.op = .slice ty x none (some hi) none) (hx : kA L x = some v) [i : HasS rs v α e z enc l f dd]
 (w : ∀ v', Hs h0 h (f (.sl v' e z enc (l.take b))) → KO P X sz ops os (L.put d v') h R) (hg : guardA ops L.tree o.guard = some true := by exact rfl) (hhi : kA L hi = some vh := by exact rfl) (hbo : boundOf (some vh) l.length = some b := by exact rfl) (hb : b ≤ l.length := by first | omega | grind)
 (hz : ∀ x, (enc x).length = z := by intro _; rfl) (hu : elemZ P ty = some z := by exact rfl) (hdst : o.dst = some d := by exact rfl) (hds : Nat.blt d sz = true := by exact rfl) : KO P X sz ops (o :: os) L h R := by
 obtain ⟨fp, k1, k2, -⟩ := (i.ut (.sl v e z enc l)).ok (h' := h) S.ext.next (Nat.le_refl _) S.sep
 have hue : ∃ e', P.underlying ty = some (.slice e') ∧ sizeT P e' = some z := by
  unfold elemZ at hu
  split at hu
  ·exact ⟨_, by assumption, hu⟩
  ·cases hu
 obtain ⟨e', hu1, hu2⟩ := hue
 have hhi' : evA L.tree hi = some vh := tree_le hhi
 have go : ∀ v', aSlice P ty v none (some vh) none h = some v' → (∀ fq, (Rs.sl v e z enc l).ok h fq → (Rs.sl v' e z enc (l.take b)).ok h fq) → KO P X sz ops (o :: os) L h R := fun v' q1 q2 => by
  refine KO_val (v := v') (h' := h) hg ?_ (by simp only [putK, hdst, hds]) (w v' (S.same (i.ut _) q2))
  rw [ho]
  simp only [aOp, tree_le hx, evOpt, hhi', q1, nextOf, aSlice3_none]
 have h0b : boundOf none 0 = some 0 := rfl
 rcases k1 with ⟨rfl, rfl⟩ | ⟨bb, o', cc, slk, cap, g1, g2, g3, g4, g5, g6⟩
 ·obtain rfl : b = 0 := by simpa using hb
  refine go (.slice none 0 0) ?_ fun fq q => .inl ⟨rfl, by simp⟩
  have : boundOf (some vh) 0 = some 0 := hbo
  simp only [aSlice, hu1, hu2, this, h0b]
 ·subst g1
  have t1 : Nat.ble 0 b = true := by simp
  have t2 : Nat.ble b cap = true := Nat.ble_eq_true_of_le (Nat.le_trans hb g5.1)
  have hlen : (l.take b).length = b := by simp; omega
  have sub := takeAt_sub (i := 0) (m := b * z) g4 (by rw [Nat.zero_add]; exact Nat.mul_le_mul_right z hb)
  rw [List.drop_zero, ← flatMap_take hz, Nat.add_zero] at sub
  have key : ∀ fq, (Rs.sl (.slice (some ⟨bb, o', none⟩) l.length cap) e z enc l).ok h fq → (Rs.sl (.slice (some ⟨bb, o', none⟩) (b - 0) (cap - 0)) e z enc (l.take b)).ok h fq := fun fq q => by
   rcases q with ⟨q1, -⟩ | ⟨b2, o2, cc2, sl2, cap2, q1, q2, q3, q4, q5, q6⟩
   ·cases q1
   ·cases q1
    exact .inr ⟨bb, o', cc, slk, cap, by rw [hlen, Nat.sub_zero, Nat.sub_zero], g2, q3, by rw [hlen]; exact sub, ⟨by rw [hlen]; exact Nat.le_trans hb g5.1, g5.2⟩, g6⟩
  cases hk : (slk.isNone && Nat.beq 0 cap) with
  | false =>
   refine go (.slice (some ⟨bb, o', none⟩) (b - 0) (cap - 0)) ?_ key
   simp only [aSlice, hu1, hu2, g2, h0b, hbo, t1, t2, hk, Bool.and_self, Nat.zero_mul, Nat.add_zero]
  | true =>
   refine go (.slice (some ⟨bb, o', none⟩) (b - 0) (cap - 0)) ?_ key
   simp only [aSlice, hu1, hu2, g2, h0b, hbo, t1, t2, hk, Bool.and_self]
theorem bsn {ty : TypeId} {n : Nat} {ps : Array (Nat × Operand)} {vs : List (Nat × Value)} {c : List Value} {e : TypeId} {α : Type} {z : Nat} {d : Tmp} (enc : α → List Value) (l : List α) (S : Hs h0 h rs) (w : ∀ u h', Hs h0 h' (.sl u e z enc l :: rs) → KO P X sz ops os (L.put d u) h' R) (ho : o.op = .buildSlice ty n ps := by exact rfl) (hg : guardA ops L.tree o.guard = some true := by exact rfl)
 (hx : kParts L ps.toList = some vs := by exact rfl) (hv : aBuildSlice P ty n vs h = some (.slice (some ⟨h.next, 0, none⟩) n n, h.add (.cells c e none false)) := by exact rfl) (hl : l.length = n := by exact rfl) (hc : c = l.flatMap enc := by exact rfl) (hz : c.length = l.length * z := by exact rfl) (hdst : o.dst = some d := by exact rfl) (hds : Nat.blt d sz = true := by exact rfl) : KO P X sz ops (o :: os) L h R := by
 subst hl
 exact KO_bslice ho hg hx hv (by simp only [putK, hdst, hds]) (w _ _ ((S.add c e).asSl (z := z) enc l hc hz))
end
end Go.Proofs.Xx
namespace Go.Proofs.Xx
set_option linter.unusedSectionVars false
open Go Go.Proofs
set_option linter.unusedSimpArgs false
set_option linter.unusedVariables false
set_option maxRecDepth 100000
class SubR (rs rs' : List Rs) : Prop where
 sub : ∀ {h0 h : AH}, Hs h0 h rs → Hs h0 h rs'
instance (priority := 2000) SubR.here {rs : List Rs} : SubR rs rs := ⟨id⟩
instance SubR.there {r : Rs} {rs rs' : List Rs} [i : SubR rs rs'] : SubR (r :: rs) rs' := ⟨fun S => i.sub S.tail⟩
theorem Hs.sub {h0 h : AH} {rs rs' : List Rs} [i : SubR rs rs'] (S : Hs h0 h rs) : Hs h0 h rs' := i.sub S
class DtI (rs : List Rs) (r : Rs) (rs' : outParam (List Rs)) : Prop where
 dt : Dt rs r rs'
instance (priority := 2000) DtI.here {r : Rs} {rs : List Rs} : DtI (r :: rs) r rs := ⟨.here⟩
instance DtI.there {r s : Rs} {rs rs' : List Rs} [i : DtI rs r rs'] : DtI (s :: rs) r (s :: rs') := ⟨.there i.dt⟩
class SelR (rs l : List Rs) : Prop where
 sel : ∀ {lo : Nat} {h : AH} {U : Fp}, Sep lo h rs U → Sep lo h l U
instance (priority := 2000) SelR.here {rs : List Rs} : SelR rs rs := ⟨id⟩
instance SelR.nil {rs : List Rs} : SelR rs [] := ⟨fun _ => trivial⟩
instance SelR.cons {rs rs' l : List Rs} {r : Rs} [i : DtI rs r rs'] [j : SelR rs' l] : SelR rs (r :: l) := ⟨fun k => by
 obtain ⟨fp, k1, k2, k3⟩ := i.dt.sep k
 exact ⟨fp, k1, k2, j.sel k3⟩⟩
instance (priority := 500) SelR.there {rs l : List Rs} {r : Rs} [j : SelR rs l] : SelR (r :: rs) l := ⟨fun ⟨_, _, _, k⟩ => j.sel (k.mono fun _ q => q.1)⟩
theorem Hs.pick {h0 h : AH} {rs l : List Rs} [i : SelR rs l] (S : Hs h0 h rs) : Hs h0 h l := ⟨S.ext, i.sel S.sep⟩
abbrev RdS {α : Type} (h0 : AH) (rs : List Rs) (v : Value) (z : Nat) (enc : α → List Value) (l : List α) : Prop := ∀ h, Hs h0 h rs → RdL h v z enc l
theorem RdS.base {α : Type} {h0 : AH} {rs : List Rs} {v : Value} {z : Nat} {enc : α → List Value} {l : List α} (w : WfH h0) (r : RdL h0 v z enc l) : RdS h0 rs v z enc l := fun h S => r.ext w S.ext
structure Ti where
 a : List UInt8
 b : List UInt8
 k : Int
instance : Inhabited Ti := ⟨⟨[], [], 0⟩⟩
def eTi (t : Ti) : List Value := [str t.a, str t.b, .int .u8 t.k]
def tiV (t : Ti) : Value := .agg #[str t.a, str t.b, .int .u8 t.k]
def gat : List Gu → List UInt8 → Option Nat
 | [], _ => none
 | g :: r, n => if g.name = n then some 0 else (gat r n).map (· + 1)
structure Rl where
 us : List Gu
 ts : List Ti
instance : Inhabited Rl := ⟨⟨[], []⟩⟩
open Classical in
noncomputable def addF (r : Rl) (g : Gu) : Rl × Int :=
 if chkG g ≠ 0 then (r, chkG g) else if gat r.us g.name ≠ none then (r, 5) else if 64 ≤ r.us.length then (r, 7) else (⟨r.us ++ [g], r.ts⟩, 0)
theorem addF_e {r : Rl} {g : Gu} (h : chkG g ≠ 0) : addF r g = (r, chkG g) := by unfold addF; rw [if_pos h]
theorem addF_5 {r : Rl} {g : Gu} (h : chkG g = 0) (h2 : gat r.us g.name ≠ none) : addF r g = (r, 5) := by unfold addF; rw [if_neg (by simpa using h), if_pos h2]
theorem addF_7 {r : Rl} {g : Gu} (h : chkG g = 0) (h2 : gat r.us g.name = none) (h3 : 64 ≤ r.us.length) : addF r g = (r, 7) := by unfold addF; rw [if_neg (by simpa using h), if_neg (by simpa using h2), if_pos h3]
theorem addF_0 {r : Rl} {g : Gu} (h : chkG g = 0) (h2 : gat r.us g.name = none) (h3 : ¬ 64 ≤ r.us.length) : addF r g = (⟨r.us ++ [g], r.ts⟩, 0) := by unfold addF; rw [if_neg (by simpa using h), if_neg (by simpa using h2), if_neg h3]
def AtOk (m : List (List UInt8 × Int)) (us : List Gu) : Prop := ∀ n, mGet m n = (gat us n).map Int.ofNat
theorem gat_app {us : List Gu} {g : Gu} (n : List UInt8) : gat (us ++ [g]) n = match gat us n with | some i => some i | none => if g.name = n then some us.length else none := by
 induction us with
 | nil => simp [gat]
 | cons x r ih =>
  simp only [List.cons_append, gat]
  by_cases h : x.name = n
  ·simp [h]
  ·simp only [if_neg h, ih]
   cases gat r n <;> simp <;> split <;> simp
theorem AtOk.app {m : List (List UInt8 × Int)} {us : List Gu} {g : Gu} (a : AtOk m us) (hn : gat us g.name = none) : AtOk (mPut m g.name us.length) (us ++ [g]) := fun n => by
 rw [mGet_put, gat_app]
 by_cases h : n = g.name
 ·subst h; simp [hn]
 ·rw [if_neg h, a n]
  cases gat us n with
  | none => simp; exact fun q => h q.symm
  | some i => simp
def TgsOk (gs : List Gst) (h : AH) (fp : Fp) : Prop := ∀ g ∈ gs, (Rs.rd g.tv.val 1 eS g.tg).ok h fp
abbrev tgR (gs : List Gst) : Rs := .any (TgsOk gs)
structure BkS where
 vg : SlV
 vt : SlV
 m : Nat
 mp : List (List UInt8 × Int)
 gs : List Gst
abbrev bkL (b : Nat) (ts : List Ti) (s : BkS) : List Rs := [.blk b [s.vg.val, s.vt.val, .map (some s.m)] 278, .sl s.vg.val 98 9 eG s.gs, .sl s.vt.val 137 3 eTi ts, .mp s.m (.int .i64) s.mp, tgR s.gs]
abbrev bookR (b : Nat) (r : Rl) : Rs := packR (fun s : BkS => s.gs.map (·.toGu) = r.us ∧ AtOk s.mp r.us) (bkL b r.ts)
theorem Hs.bk {h0 h : AH} {rs0 rs : List Rs} {b : Nat} {r : Rl} (S : Hs h0 h rs0) (vg vt : SlV) (m : Nat) (mp : List (List UInt8 × Int)) (gs : List Gst) (q1 : gs.map (·.toGu) = r.us) (q2 : AtOk mp r.us)
 [i : SelR rs0 (.blk b [vg.val, vt.val, .map (some m)] 278 :: .sl vg.val 98 9 eG gs :: .sl vt.val 137 3 eTi r.ts :: .mp m (.int .i64) mp :: tgR gs :: rs)] : Hs h0 h (bookR b r :: rs) :=
 Hs.pack (s := ⟨vg, vt, m, mp, gs⟩) ⟨q1, q2⟩ (show Hs h0 h (.blk b [vg.val, vt.val, .map (some m)] 278 :: .sl vg.val 98 9 eG gs :: .sl vt.val 137 3 eTi r.ts :: .mp m (.int .i64) mp :: tgR gs :: rs) from S.pick)
theorem TgsOk.rd {h : AH} {fp : Fp} {gs : List Gst} (k : TgsOk gs h fp) {i : Nat} (hi : i < gs.length) : RdL h (gs.getD i default).tv.val 1 eS (gs.getD i default).tg := by
 have q := k _ (List.getElem_mem hi)
 rw [show gs.getD i default = gs[i] by rw [List.getD_eq_getElem?_getD, List.getElem?_eq_getElem hi]; rfl]
 rcases q with ⟨q1, q2⟩ | ⟨b, o, cap, cc, e, s, r, q1, q2, q3, q4⟩
 ·exact .inl ⟨q1, by rw [q2]; rfl, by rw [q2]; rfl⟩
 ·exact .inr ⟨b, o, cap, cc, e, s, r, q1, q2, q4⟩
theorem rd_mono {α : Type} {v : Value} {z : Nat} {enc : α → List Value} {l : List α} {h : AH} {fp fp' : Fp} (k : (Rs.rd v z enc l).ok h fp) (hf : ∀ b, fp b → fp' b) : (Rs.rd v z enc l).ok h fp' := by
 rcases k with k | ⟨b, o, cap, cc, e, s, r, q1, q2, q3, q4⟩
 ·exact .inl k
 ·exact .inr ⟨b, o, cap, cc, e, s, r, q1, q2, hf b q3, q4⟩
theorem sl_rd {α : Type} {v : Value} {e : TypeId} {z : Nat} {enc : α → List Value} {l : List α} {h : AH} {fp : Fp} (k : (Rs.sl v e z enc l).ok h fp) : (Rs.rd v z enc l).ok h fp := by
 rcases k with k | ⟨b, o, cc, slk, cap, h1, h2, h3, h4, -⟩
 ·exact .inl k
 ·exact .inr ⟨b, o, _, cc, e, slk, false, h1, h2, h3, h4⟩
theorem Hs.tgApp {h0 h : AH} {rs : List Rs} {gs : List Gst} {g : Gst} {e : TypeId} (S : Hs h0 h (.sl g.tv.val e 1 eS g.tg :: tgR gs :: rs)) : Hs h0 h (tgR (gs ++ [g]) :: rs) := by
 obtain ⟨f1, k1, k2, f2, k3, k4, k5⟩ := S.sep
 refine ⟨S.ext, fun b => f1 b ∨ f2 b, fun h' q g' hg => ?_, fun b hb => ?_, k5.mono fun b hb => ⟨trivial, fun q => ?_⟩⟩
 ·rcases List.mem_append.1 hg with hg | hg
  ·exact rd_mono (k3 h' (fun b hb => q b (.inr hb)) g' hg) fun b hb => .inr hb
  ·obtain rfl := List.mem_singleton.1 hg
   exact rd_mono (sl_rd (k1.local fun b hb => q b (.inl hb))) fun b hb => .inl hb
 ·rcases hb with hb | hb
  ·exact k2 b hb
  ·exact ⟨(k4 b hb).1, (k4 b hb).2.1, trivial⟩
 ·rcases q with q | q
  ·exact hb.1.2 q
  ·exact hb.2 q
theorem chkG_ok {g : Gu} (h : chkG g = 0) : NmsOk g ∧ (0 ≤ g.since ∧ g.since ≤ 9999) ∧ (0 ≤ g.side ∧ g.side ≤ 2) ∧ g.tg.length ≤ 4 ∧ TgOk g.tg := by
 unfold chkG at h
 split at h
 ·cases h
 ·split at h
  ·cases h
  ·split at h
   ·cases h
   ·split at h
    ·cases h
    ·rename_i a b c d
     exact ⟨Classical.not_not.1 a, Classical.not_not.1 b, Classical.not_not.1 c, (Classical.not_not.1 d).1, (Classical.not_not.1 d).2⟩
variable [Flag]
theorem bnone_ok {h0 : AH} (w : WfH h0) {b m : Nat} {vg vt : Value} (hb : h0.get b = some (.cells [vg, vt, .map (some m)] 278 none false)) : Fn Tryz.prog Xh 279 [.pointer (some ⟨b, 0, none⟩)] h0 (fun v h' => v = .bool false ∧ Hs h0 h' []) := by
 have S := Hs.start w
 refine Fn_K (by first | rfl) Tryz.func279 rfl rfl ?_
 all_goals (repeat' (first | refine K_seq ?_ | (refine K_region (id := 0) ?_; refine mv ?_; refine KO_nil ?_) | (refine K_region (id := 1) ?_; refine mv ?_; refine vl ?_; refine mv ?_; refine mv ?_; refine vl ?_; (first | (refine vl ?_)); (first | (refine lH S ?_)); refine vl ?_; refine vl ?_; refine mv ?_; refine KO_nil ?_)))
 refine K_ret ⟨_, rfl, ?_⟩
 exact ⟨rfl, S⟩
theorem cloneW_ok {h0 : AH} (w : WfH h0) (v : Value) (a : List (List UInt8)) (r : RdL h0 v 1 eS a) (hl : a.length ≤ 1000000) : Fn Tryz.prog Xh 290 [v] h0 (fun u h' => Hs h0 h' [.sl u 9 1 eS a]) := by
 have S := Hs.start w
 have r0 := r
 rcases r with ⟨rfl, h1, -⟩ | ⟨b, o, cap, cc, e, s, q, rfl, h1, h2⟩
 ·obtain rfl : a = [] := List.length_eq_zero_iff.1 h1
  refine Fn_K (by first | rfl) Tryz.func290 rfl rfl ?_
  all_goals (repeat' (first | refine K_seq ?_ | refine k_cond rfl ?_ | (refine K_region (id := 0) ?_; refine mv ?_; refine KO_nil ?_) | (refine K_region (id := 1) ?_; refine mv ?_; refine vl ?_; refine KO_nil ?_) | (refine K_region (id := 2) ?_; refine mv ?_; refine KO_nil ?_)))
  refine K_ret ⟨_, rfl, ?_⟩
  exact S.nilS
 ·refine Fn_K (by first | rfl) Tryz.func290 rfl rfl ?_
  all_goals (repeat' (first | refine K_seq ?_ | refine k_cond rfl ?_ | refine K_skip ?_ | (refine K_region (id := 0) ?_; refine mv ?_; refine KO_nil ?_) | (refine K_region (id := 1) ?_; refine mv ?_; refine vl ?_; refine KO_nil ?_) | (refine K_region (id := 3) ?_; skip)))
  refine nw 1 eS S ?_; clear S; intro u h S; (refine mv ?_)
  refine apd S rfl rfl (r0.ext w S.ext) ?_; clear S; intro v' h S; (refine mv ?_; refine KO_nil ?_)
  all_goals (repeat' (fail))
  refine K_ret ⟨_, rfl, ?_⟩
  exact S
theorem copied_ok {h0 : AH} (w : WfH h0) (g : Gst) (r : RdL h0 g.tv.val 1 eS g.tg) (hl : g.tg.length ≤ 1000000) : Fn Tryz.prog Xh 281 [gV g] h0 (fun v h' => ∃ tv : SlV, v = gV { g with tv := tv } ∧ Hs h0 h' [.sl tv.val 9 1 eS g.tg]) := by
 have S := Hs.start w
 unfold gV
 refine Fn_K (by first | rfl) Tryz.func281 rfl rfl ?_
 all_goals (repeat' (first | refine K_seq ?_ | (refine K_region (id := 0) ?_; (refine bx S ?_; clear S; intro b h S); (refine al S ?_; clear S; intro b h S); refine KO_nil ?_) | (refine K_region (id := 1) ?_; refine vl ?_; refine lB S rfl rfl ?_)))
 (refine KO_fn rfl rfl rfl rfl rfl ((cloneW_ok S.wf g.tv.val g.tg (r.ext w S.ext) hl).mono ?_); rintro v h x) <;> (replace S := S.join1 x; clear x; obtain ⟨tv, rfl⟩ := S.slRd.sV v; refine vl ?_; (first | (refine sB S rfl rfl ?_; clear S; intro h S)); refine KO_nil ?_)
 all_goals (repeat' (first | refine K_seq ?_ | (refine K_region (id := 2) ?_; refine lB S rfl rfl ?_; (first | (refine sB S rfl rfl ?_; clear S; intro h S)); refine KO_nil ?_)))
 refine K_ret ⟨_, ret_cell S rfl (by first | exact .there .here) (by exact rfl) (by exact rfl), ?_⟩
 exact ⟨tv, rfl, S.only .here⟩
theorem new_ok {h0 : AH} (w : WfH h0) : Fn Tryz.prog Xh 259 [] h0 (fun v h' => ∃ b, v = .pointer (some ⟨b, 0, none⟩) ∧ Hs h0 h' [bookR b ⟨[], []⟩]) := by
 have S := Hs.start w
 refine Fn_K (by first | rfl) Tryz.func259 rfl rfl ?_
 all_goals (repeat' (first | refine K_seq ?_ | (refine K_region (id := 0) ?_; refine mv ?_; refine KO_nil ?_)))
 refine K_region (id := 1) ?_
 refine mkm (α := Int) (.int .i64) S ?_; clear S; intro m h S; (refine vl ?_; (refine bx S ?_; clear S; intro b h S); refine mv ?_; refine KO_nil ?_)
 all_goals (repeat' (fail))
 refine K_ret ⟨_, rfl, ?_⟩
 refine ⟨_, rfl, ?_⟩
 have S := ((S.nilS (e := 98) (z := 9) (enc := eG)).nilS (e := 137) (z := 3) (enc := eTi)).anyS (p := TgsOk []) fun h' g hg => by cases hg
 replace S : Hs h0 _ [tgR [], .sl (SlV.val ⟨none, 0, 0⟩) 137 3 eTi [], .sl (SlV.val ⟨none, 0, 0⟩) 98 9 eG [], .blk b [SlV.val ⟨none, 0, 0⟩, SlV.val ⟨none, 0, 0⟩, .map (some m)] 278, .mp m (.int .i64) []] := S
 exact S.bk (r := ⟨[], []⟩) ⟨none, 0, 0⟩ ⟨none, 0, 0⟩ m [] [] rfl fun n => rfl
theorem add_ok {h0 h : AH} {rs : List Rs} {p : Nat} {r : Rl} (S : Hs h0 h (bookR p r :: rs)) (g : Gst) (hr : RdS h0 rs g.tv.val 1 eS g.tg) (hl : g.tg.length ≤ 9223372036854775807) (hu : r.us.length ≤ 64) :
 Fn Tryz.prog Xh 260 [.pointer (some ⟨p, 0, none⟩), gV g] h (fun v h' => v = .int .i64 (addF r g.toGu).2 ∧ Hs h0 h' (bookR p (addF r g.toGu).1 :: rs)) := by
 obtain ⟨⟨vg, vt, m, mp, gs⟩, ⟨q1, q2⟩, S⟩ := S.unpack
 have e1 : gs.length = r.us.length := by rw [← q1]; simp
 dsimp only [bkL, List.cons_append, List.nil_append] at q1 q2 S
 unfold gV
 refine Fn_K (by first | rfl) Tryz.func260 rfl rfl ?_
 all_goals (repeat' (first | refine K_seq ?_ | (refine K_region (id := 0) ?_; (refine bx S ?_; clear S; intro b h S); refine mv ?_; refine KO_nil ?_) | (refine K_region (id := 1) ?_; refine mv ?_)))
 (refine KO_fn rfl rfl rfl rfl rfl ((bnone_ok S.wf (blk_get S (.there .here))).mono ?_); rintro _ h ⟨rfl, x⟩) <;> (replace S := S.join0 x; clear x; refine KO_nil ?_)
 all_goals (repeat' (first | refine K_seq ?_ | refine k_cond rfl ?_ | refine K_skip ?_ | (refine K_region (id := 3) ?_; refine lB S rfl rfl ?_)))
 (refine KO_fn rfl rfl rfl rfl rfl ((check_ok S.wf g ⟨hr _ S.sub, hl⟩).mono ?_); rintro _ h ⟨rfl, x⟩) <;> (replace S := S.join0 x; clear x; refine mv ?_; refine KO_nil ?_)
 all_goals (repeat' (first | refine K_seq ?_ | refine k_cond rfl ?_ | refine K_skip ?_ | (refine K_region (id := 4) ?_; refine mv ?_; (first | (refine cS ?_ ?_ <;> intro hc)) <;> (refine KO_nil ?_)) | (refine K_region (id := 5) ?_; refine mv ?_; refine mv ?_; refine KO_nil ?_) | (refine K_draw (id := 6) ?_; refine mv ?_; refine vl ?_; refine vl ?_; refine lB S rfl rfl ?_; refine vl ?_; refine lB S rfl rfl ?_)))
 ·refine K_ret ⟨_, rfl, ?_⟩
  rw [addF_e hc]
  exact ⟨rfl, S.bk vg vt m mp gs q1 q2⟩
 ·have hc0 : chkG g.toGu = 0 := by simpa using hc
  replace S : Hs h0 h (.blk b (eG g) 98 :: .blk p [vg.val, vt.val, .map (some m)] 278 :: .sl vg.val 98 9 eG gs :: .sl vt.val 137 3 eTi r.ts :: .mp m (.int .i64) mp :: tgR gs :: rs) := S
  refine lk S (.there (.there (.there (.there .here)))) (fun i hi => ?_) (fun hi => ?_)
  ·simp only [okV]
   (refine mv ?_; refine vl ?_; refine vl ?_; refine mv ?_; refine mv ?_; refine KO_nil ?_)
   all_goals (repeat' (first | refine K_seq ?_ | refine k_cond rfl ?_ | (refine K_region (id := 7) ?_; refine mv ?_; refine KO_nil ?_) | (refine K_region (id := 8) ?_; refine mv ?_; refine KO_nil ?_)))
   refine K_ret ⟨_, rfl, ?_⟩
   rw [addF_5 hc0 (by rw [q2] at hi; intro q; rw [q] at hi; cases hi)]
   exact ⟨rfl, S.bk vg vt m mp gs q1 q2⟩
  ·simp only [okV]
   (refine mv ?_; refine vl ?_; refine vl ?_; refine mv ?_; refine mv ?_; refine KO_nil ?_)
   all_goals (repeat' (first | refine K_seq ?_ | refine k_cond rfl ?_ | refine K_skip ?_ | (refine K_region (id := 7) ?_; refine mv ?_; refine KO_nil ?_) | (refine K_region (id := 9) ?_; refine mv ?_; refine vl ?_; refine vl ?_; refine vl ?_; refine lB S rfl rfl ?_; refine lnS S rfl rfl ?_; (first | (refine cS ?_ ?_ <;> intro hc)) <;> (refine KO_nil ?_)) | (refine K_region (id := 10) ?_; refine mv ?_; refine KO_nil ?_) | (refine K_draw (id := 11) ?_; refine mv ?_; refine vl ?_; refine vl ?_; refine lB S rfl rfl ?_; refine vl ?_; refine lB S rfl rfl ?_; refine mv ?_; refine vl ?_; refine vl ?_; refine vl ?_; refine lB S rfl rfl ?_; refine lnS S rfl rfl ?_)))
   ·refine K_ret ⟨_, rfl, ?_⟩
    rw [addF_7 hc0 (by rw [q2] at hi; cases hq : gat r.us g.name with | none => rfl | some i => rw [hq] at hi; cases hi) (by omega)]
    exact ⟨rfl, S.bk vg vt m mp gs q1 q2⟩
   ·have hn : gat r.us g.name = none := by rw [q2] at hi; cases hq : gat r.us g.name with | none => rfl | some i => rw [hq] at hi; cases hi
    have hn64 : ¬ 64 ≤ r.us.length := by omega
    refine up (x := (gs.length : Int)) (key := g.name) S (.there (.there (.there (.there .here)))) (.there (.there (.there (.there .here)))) (fun h S => ?_) (.inl rfl)
    (refine KO_nil ?_)
    have ht4 := (chkG_ok hc0).2.2.2.1
    (repeat (refine K_seq ?_)); refine K_drawX (id := 12) [(5, (0, 2))] [some (p)] ?_; refine KX_cons ?_; (first | (refine mv ?_ <;> refine KO_nil ⟨⟨by (first | exact True.intro), rfl⟩, ?_⟩)); refine KX_cons ?_; (first | (refine mv ?_ <;> refine KO_nil ⟨⟨by (first | exact True.intro), rfl⟩, ?_⟩)); refine KX_cons ?_; (first | (refine vl ?_ <;> refine KO_nil ⟨⟨by (first | exact True.intro), rfl⟩, ?_⟩)); refine KX_cons ?_; (first | (refine vl ?_ <;> refine KO_nil ⟨⟨by (first | exact True.intro), rfl⟩, ?_⟩)); refine KX_cons ?_; (first | (refine vl ?_ <;> refine KO_nil ⟨⟨by (first | exact True.intro), rfl⟩, ?_⟩)); refine KX_cons ?_; (first | (refine lB S rfl rfl ?_ <;> refine KO_nil ⟨⟨by (first | exact Or.inr rfl), rfl⟩, ?_⟩)); refine KX_cons ?_; (first | (refine lB S rfl rfl ?_ <;> refine KO_nil ⟨⟨by (first | exact True.intro), rfl⟩, ?_⟩))
    ((refine KX_cons ?_; first | refine KO_fn rfl rfl rfl rfl rfl ((copied_ok S.wf g (hr _ S.sub) (by omega)).mono ?_)); rintro _ h ⟨tv, rfl, x⟩) <;> ((refine KO_nil ⟨⟨True.intro, ?_⟩, ?_⟩; (focus ((show keepsX _ _ _ _ _; simp only [keepsX]; (repeat' (first | exact True.intro | refine And.intro ?_ ?_)); all_goals (intro hw; first | exact x.ext.old _ S.bB))))); replace S := S.join1 x; clear x; refine KX_cons ?_; (first | ((refine one 9 S ?_; have S0 := S; clear S; intro u h S); refine KO_nil ⟨⟨True.intro, ?_⟩, ?_⟩; (focus ((show keepsX _ _ _ _ _; simp only [keepsX]; (repeat' (first | exact True.intro | refine And.intro ?_ ?_)); all_goals (intro hw; first | exact (S.gB).trans (S0.gB).symm)))); clear S0)))
    refine KX_cons ?_; refine app (y0 := { g with tv := tv }) S rfl rfl ?_; have S0 := S; clear S; intro v h S; obtain ⟨vg', rfl⟩ := S.sV v; refine KO_nil ⟨⟨True.intro, ?_⟩, ?_⟩; (focus ((show keepsX _ _ _ _ _; simp only [keepsX]; (repeat' (first | exact True.intro | refine And.intro ?_ ?_)); all_goals (intro hw; first | exact absurd hw (by decide +kernel))))); clear S0; (refine KX_cons ?_; (first | (refine vl ?_ <;> refine KO_nil ⟨⟨by (first | exact True.intro), rfl⟩, ?_⟩)); refine KX_cons ?_; (first | (refine vl ?_ <;> refine KO_nil ⟨⟨by (first | exact True.intro), rfl⟩, ?_⟩)); refine KX_cons ?_; (first | (refine vl ?_ <;> refine KO_nil ⟨⟨by (first | exact True.intro), rfl⟩, ?_⟩)); refine KX_cons ?_; (first | ((refine sB S rfl rfl ?_; have S0 := S; clear S; intro h S); refine KO_nil ⟨⟨True.intro, ?_⟩, ?_⟩; (focus ((show keepsX _ _ _ _ _; simp only [keepsX]; (repeat' (first | exact True.intro | refine And.intro ?_ ?_)); all_goals (intro hw; first | exact absurd hw (by decide +kernel))))); clear S0)); refine KX_nil ?_)
    all_goals (repeat' (first | refine K_seq ?_ | (refine K_region (id := 13) ?_; refine mv ?_; refine KO_nil ?_)))
    refine K_ret ⟨_, rfl, ?_⟩
    rw [addF_0 hc0 hn hn64]
    replace S : Hs h0 h (.sl vg'.val 98 9 eG (gs ++ [{ g with tv := tv }]) :: .sl tv.val 9 1 eS g.tg :: .blk b (eG g) 98 :: .blk p [vg'.val, vt.val, .map (some m)] 278 :: .sl vt.val 137 3 eTi r.ts :: .mp m (.int .i64) (mPut mp g.name gs.length) :: tgR gs :: rs) := S
    have S := (show Hs h0 h (.sl tv.val 9 1 eS g.tg :: tgR gs :: .sl vg'.val 98 9 eG (gs ++ [{ g with tv := tv }]) :: .blk p [vg'.val, vt.val, .map (some m)] 278 :: .sl vt.val 137 3 eTi r.ts :: .mp m (.int .i64) (mPut mp g.name gs.length) :: rs) from S.pick)
    have S := Hs.tgApp (g := { g with tv := tv }) S
    refine ⟨rfl, S.bk vg' vt m (mPut mp g.name gs.length) (gs ++ [{ g with tv := tv }]) (by simp [q1]) ?_⟩
    rw [e1]; exact q2.app hn
end Go.Proofs.Xx
namespace Go.Proofs.Xx
set_option linter.unusedSectionVars false
open Go Go.Proofs
set_option linter.unusedSimpArgs false
set_option linter.unusedVariables false
set_option maxRecDepth 100000
theorem cmpB (a b : List UInt8) : (Lib.compareBytes a b < 0 ↔ sLt a b) ∧ (Lib.compareBytes a b = 0 ↔ a = b) := by
 induction a generalizing b with
 | nil =>
  cases b with
  | nil => exact ⟨⟨fun h => by simp [Lib.compareBytes] at h, fun h => absurd h (sLt_nil _)⟩, by simp [Lib.compareBytes]⟩
  | cons y b => exact ⟨⟨fun _ => nil_sLt _ _, fun _ => by simp [Lib.compareBytes]⟩, by simp [Lib.compareBytes]⟩
 | cons x a ih =>
  cases b with
  | nil => exact ⟨⟨fun h => by simp [Lib.compareBytes] at h, fun h => absurd h (sLt_nil _)⟩, by simp [Lib.compareBytes]⟩
  | cons y b =>
   obtain ⟨i1, i2⟩ := ih b
   have hc : Lib.compareBytes (x :: a) (y :: b) = if x < y then -1 else if y < x then 1 else Lib.compareBytes a b := rfl
   rw [sLt_cons, hc]
   by_cases h1 : x < y
   ·rw [if_pos h1]
    refine ⟨⟨fun _ => .inl h1, fun _ => by omega⟩, fun q => by omega, fun q => ?_⟩
    injection q with q _; subst q; exact absurd h1 (UInt8.lt_irrefl _)
   ·rw [if_neg h1]
    by_cases h2 : y < x
    ·rw [if_pos h2]
     refine ⟨⟨fun q => by omega, fun q => ?_⟩, fun q => by omega, fun q => ?_⟩
     ·rcases q with q | ⟨rfl, -⟩
      ·exact absurd q h1
      ·exact absurd h2 (UInt8.lt_irrefl _)
     ·injection q with q _; subst q; exact absurd h2 (UInt8.lt_irrefl _)
    ·rw [if_neg h2]
     have e : x = y := UInt8.le_antisymm (UInt8.not_lt.1 h2) (UInt8.not_lt.1 h1)
     subst e
     refine ⟨⟨fun q => .inr ⟨rfl, i1.1 q⟩, fun q => ?_⟩, ⟨fun q => by rw [i2.1 q], fun q => i2.2 (by injection q)⟩⟩
     rcases q with q | q
     ·exact absurd q h1
     ·exact i1.2 q.2
def bef (x y : Ti) : Prop := sLt x.a y.a ∨ (x.a = y.a ∧ sLt x.b y.b)
theorem bef_irr (x : Ti) : ¬ bef x x := fun h => by rcases h with h | h; exact sLt_irr _ h; exact sLt_irr _ h.2
theorem bef_trans {x y z : Ti} (h1 : bef x y) (h2 : bef y z) : bef x z := by
 rcases h1 with h1 | ⟨e1, h1⟩
 ·rcases h2 with h2 | ⟨e2, h2⟩
  ·exact .inl (sLt_trans h1 h2)
  ·exact .inl (e2 ▸ h1)
 ·rcases h2 with h2 | ⟨e2, h2⟩
  ·exact .inl (e1 ▸ h2)
  ·exact .inr ⟨e1.trans e2, sLt_trans h1 h2⟩
theorem bef_tri (x y : Ti) : bef x y ∨ (x.a = y.a ∧ x.b = y.b) ∨ bef y x := by
 rcases sLt_tri x.a y.a with h | h | h
 ·exact .inl (.inl h)
 ·rcases sLt_tri x.b y.b with g | g | g
  ·exact .inl (.inr ⟨h, g⟩)
  ·exact .inr (.inl ⟨h, g⟩)
  ·exact .inr (.inr (.inr ⟨h.symm, g⟩))
 ·exact .inr (.inr (.inl h))
def TS (ts : List Ti) : Prop := ts.Pairwise bef
theorem TS.lt {ts : List Ti} (h : TS ts) {i j : Nat} (hij : i < j) (hj : j < ts.length) : bef (ts.getD i default) (ts.getD j default) := by
 have := List.pairwise_iff_getElem.1 h i j (by omega) hj hij
 rw [List.getD_eq_getElem?_getD, List.getD_eq_getElem?_getD, List.getElem?_eq_getElem hj, List.getElem?_eq_getElem (show i < ts.length by omega)]
 exact this
def Plc (l : List Ti) (y : Ti) (i : Nat) : Prop := i ≤ l.length ∧ (∀ j, j < i → bef (l.getD j default) y) ∧ ∀ j, i ≤ j → j < l.length → ¬ bef (l.getD j default) y
variable [Flag]
theorem cmps_ok {h : AH} (a b : List UInt8) : Fn Tryz.prog Xh 291 [str a, str b] h (fun v h' => (∃ c, v = .int .i64 c ∧ (c < 0 ↔ sLt a b) ∧ (c = 0 ↔ a = b)) ∧ h' = h) := by
 refine Fn_K (by first | rfl) Tryz.func291 rfl rfl ?_
 all_goals (repeat' (first | refine K_seq ?_ | (refine K_region (id := 0) ?_; refine mv ?_; refine KO_nil ?_) | (refine K_region (id := 1) ?_; refine mv ?_; refine mv ?_)))
 (refine KO_fn rfl rfl rfl rfl rfl (((Fn_known (R := fun v h' => v = .int .i64 (Lib.compareBytes a b) ∧ h' = h) rfl ⟨rfl, rfl⟩)).mono ?_); rintro _ _ ⟨rfl, rfl⟩) <;> (refine mv ?_; refine KO_nil ?_)
 all_goals (repeat' (fail))
 refine K_ret ⟨_, rfl, ?_⟩
 exact ⟨⟨_, rfl, cmpB a b⟩, rfl⟩
theorem cmp_ok {h : AH} (a b : List UInt8) : Fn Tryz.prog Xh 282 [str a, str b] h (fun v h' => (∃ c, v = .int .i64 c ∧ (c < 0 ↔ sLt a b) ∧ (c = 0 ↔ a = b)) ∧ h' = h) := by
 refine Fn_K (by first | rfl) Tryz.func282 rfl rfl ?_
 all_goals (repeat' (first | refine K_seq ?_ | (refine K_region (id := 0) ?_; refine mv ?_; refine KO_nil ?_) | (refine K_region (id := 1) ?_; refine mv ?_; refine mv ?_)))
 (refine KO_fn rfl rfl rfl rfl rfl ((cmps_ok a b).mono ?_); rintro _ _ ⟨⟨c, rfl, q⟩, rfl⟩) <;> (refine mv ?_; refine KO_nil ?_)
 all_goals (repeat' (fail))
 refine K_ret ⟨_, rfl, ?_⟩
 exact ⟨⟨c, rfl, q⟩, rfl⟩
theorem order_ok {h0 : AH} (w : WfH h0) (x y : Ti) : Fn Tryz.prog Xh 261 [tiV x, tiV y] h0 (fun v h' => (∃ c, v = .int .i64 c ∧ (c < 0 ↔ bef x y) ∧ (c = 0 ↔ x.a = y.a ∧ x.b = y.b)) ∧ Hs h0 h' []) := by
 have S := Hs.start w
 unfold tiV
 refine Fn_K (by first | rfl) Tryz.func261 rfl rfl ?_
 all_goals (repeat' (first | refine K_seq ?_ | (refine K_region (id := 0) ?_; (refine bx S ?_; clear S; intro b h S); (refine bx S ?_; clear S; intro b h S); refine mv ?_; refine KO_nil ?_) | (refine K_region (id := 1) ?_; refine vl ?_; refine lB S rfl rfl ?_; refine vl ?_; refine lB S rfl rfl ?_)))
 (refine KO_fn rfl rfl rfl rfl rfl ((cmp_ok x.a y.a).mono ?_); rintro _ _ ⟨⟨c, rfl, q1, q2⟩, rfl⟩) <;> (refine mv ?_; refine KO_nil ?_)
 all_goals (repeat' (first | refine K_seq ?_ | refine k_cond rfl ?_ | refine K_skip ?_ | (refine K_region (id := 2) ?_; refine mv ?_; (first | (refine cS ?_ ?_ <;> intro hc)) <;> (refine KO_nil ?_)) | (refine K_region (id := 3) ?_; refine mv ?_; refine mv ?_; refine KO_nil ?_) | (refine K_region (id := 4) ?_; refine vl ?_; refine lB S rfl rfl ?_; refine vl ?_; refine lB S rfl rfl ?_)))
 ·refine K_ret ⟨_, rfl, ?_⟩
  refine ⟨⟨c, rfl, ?_, ?_⟩, S.drop⟩
  ·unfold bef
   rw [q1]
   exact ⟨.inl, fun h => h.elim id fun h => absurd (q2.2 h.1) hc⟩
  ·exact ⟨fun h => absurd h hc, fun h => q2.2 h.1⟩
 ·(refine KO_fn rfl rfl rfl rfl rfl ((cmp_ok x.b y.b).mono ?_); rintro _ _ ⟨⟨d, rfl, q3, q4⟩, rfl⟩) <;> (refine mv ?_; refine KO_nil ?_)
  all_goals (repeat' (fail))
  refine K_ret ⟨_, rfl, ?_⟩
  have e := q2.1 (by omega)
  refine ⟨⟨d, rfl, ?_, ?_⟩, S.drop⟩
  ·unfold bef
   rw [q3]
   exact ⟨fun h => .inr ⟨e, h⟩, fun h => h.elim (fun h => absurd (e ▸ h) (sLt_irr _)) (·.2)⟩
  ·rw [q4]
   exact ⟨fun h => ⟨e, h⟩, (·.2)⟩
theorem pair_ok {h0 : AH} (w : WfH h0) (a b : List UInt8) (k : Int) : Fn Tryz.prog Xh 285 [str a, str b, .int .u8 k] h0 (fun v h' => v = tiV ⟨sMin a b, sMax a b, k⟩ ∧ Hs h0 h' []) := by
 have S := Hs.start w
 refine Fn_K (by first | rfl) Tryz.func285 rfl rfl ?_
 all_goals (repeat' (first | refine K_seq ?_ | (refine K_region (id := 0) ?_; (refine al S ?_; clear S; intro b h S); refine KO_nil ?_) | (refine K_region (id := 1) ?_; refine mv ?_; refine mv ?_; refine mnS ?_; refine mv ?_; refine mv ?_; refine mxS ?_; refine mv ?_; refine vl ?_; (first | (refine sB S rfl rfl ?_; clear S; intro h S)); refine KO_nil ?_)))
 refine K_ret ⟨_, ret_cell S rfl (by first | exact .here) (by exact rfl) (by exact rfl), ?_⟩
 exact ⟨rfl, S.drop⟩
theorem bsearch_ok {h0 : AH} (w : WfH h0) {v : Value} {l : List Ti} (hr : RdL h0 v 3 eTi l) (hl : l.length ≤ 1000000) (hs : TS l) (y : Ti) :
 Fn Tryz.prog Xh 292 [v, tiV y, .func (.func 261) #[] #[]] h0 (fun u h' => (∃ (i : Nat) (f : Bool), u = .tuple #[.int .i64 i, .bool f] ∧ Plc l y i ∧ (f = true ↔ i < l.length ∧ (l.getD i default).a = y.a ∧ (l.getD i default).b = y.b)) ∧ Hs h0 h' []) := by
 have S := Hs.start w
 unfold tiV
 refine Fn_K (by first | rfl) Tryz.func292 rfl rfl ?_
 all_goals (repeat' (first | refine K_seq ?_ | refine k_block ?_ | (refine K_region (id := 0) ?_; (refine bx S ?_; clear S; intro b h S); refine mv ?_; refine mv ?_; refine KO_nil ?_) | (refine K_region (id := 1) ?_; refine mv ?_; refine lnB S ?_; refine mv ?_; refine KO_nil ?_) | (refine K_region (id := 2) ?_; refine mv ?_; refine mv ?_; refine mv ?_; refine KO_nil ?_)))
 replace S : Hs h0 h [.blk b (eTi y) 137] := S
 refine k_loop (σ := Nat × Nat) (fun (lo, hi) h' => Hs h0 h' [.blk b (eTi y) 137] ∧ lo ≤ hi ∧ hi ≤ l.length ∧ (∀ j, j < lo → bef (l.getD j default) y) ∧ (∀ j, hi ≤ j → j < l.length → ¬ bef (l.getD j default) y)) (fun (lo, hi) => hi - lo) (fun (lo, hi) => [(0, v), (2, .func (.func 261) #[] #[]), (4, .pointer (some ⟨b, 0, none⟩)), (8, .int .i64 l.length), (9, .int .i64 lo), (10, .int .i64 hi)]) (0, l.length) (by repeat (first | exact Ks.le_nil _ | refine Ks.le_cons rfl ?_)) ?_ ?_
 ·exact ⟨S, Nat.zero_le _, Nat.le_refl _, fun j hj => absurd hj (Nat.not_lt_zero _), fun j h1 h2 => absurd h2 (by omega)⟩
 clear S
 rintro ⟨lo, hi⟩ h ⟨S, g1, g2, g3, g4⟩
 all_goals (repeat' (first | refine K_seq ?_ | refine k_cond rfl ?_ | refine K_skip ?_ | refine K_exit ?_ | refine k_block ?_ | (refine K_region (id := 3) ?_; refine mv ?_; refine mv ?_; (first | (refine cS ?_ ?_ <;> intro hc)) <;> (refine KO_nil ?_)) | (refine K_region (id := 4) ?_; refine mv ?_; refine mv ?_; refine ad ?_; refine cW ?_; refine sR1 ?_; refine cI ?_; refine mv ?_; refine KO_nil ?_) | (refine K_draw (id := 5) ?_; refine mv ?_; refine mv ?_; refine mv ?_; refine ixB S ?_; refine lEB S ?_; refine lB S rfl rfl ?_) | (refine K_draw (id := 8) ?_; refine mv ?_; refine mv ?_; refine mv ?_; (first | (refine cS ?_ ?_ <;> intro hc)) <;> (refine mv ?_; (first | refine off ?_ | refine mv ?_); (first | refine off ?_ | refine mv ?_); (first | refine off ?_ | refine mv ?_); (first | refine off ?_ | (refine ixB S ?_)); (first | refine off ?_ | (refine lEB S ?_)); (first | refine off ?_ | (refine lB S rfl rfl ?_)); (first | (refine off ?_; (refine off ?_) <;> (refine vl ?_; refine mv ?_; refine mv ?_; refine KO_nil ?_)) | skip)))))
 ·obtain ⟨mid, hm, hm2, hm3⟩ : ∃ mid : Nat, ((lo : Int) + hi) / 2 = mid ∧ lo ≤ mid ∧ mid < hi := ⟨(lo + hi) / 2, by omega, by omega, by omega⟩
  simp only [hm, Int.toNat_natCast]
  (refine KO_call rfl rfl rfl rfl ((order_ok S.wf (l.getD mid default) y).mono ?_); rintro _ h ⟨⟨c, rfl, e1, e2⟩, x⟩) <;> (replace S := S.join0 x; clear x; (first | (refine cS ?_ ?_ <;> intro hc)) <;> (refine KO_nil ?_))
  all_goals (repeat' (first | refine k_cond rfl ?_ | (refine K_region (id := 6) ?_; refine mv ?_; refine ad ?_; refine mv ?_; refine KO_nil ?_) | (refine K_region (id := 7) ?_; refine mv ?_; refine mv ?_; refine KO_nil ?_)))
  ·refine ⟨(mid + 1, hi), ?_, ?_, (by repeat (first | exact Ks.le_nil _ | refine Ks.le_cons rfl ?_))⟩
   ·show hi - (mid + 1) < hi - lo; omega
   ·refine ⟨S, by omega, g2, fun j hj => ?_, g4⟩
    rcases Nat.lt_or_ge j mid with q | q
    ·exact bef_trans (hs.lt q (by omega)) (e1.1 hc)
    ·obtain rfl : j = mid := by omega
     exact e1.1 hc
  ·refine ⟨(lo, mid), ?_, ?_, (by repeat (first | exact Ks.le_nil _ | refine Ks.le_cons rfl ?_))⟩
   ·show mid - lo < hi - lo; omega
   ·refine ⟨S, hm2, by omega, g3, fun j h1 h2 q => ?_⟩
    rcases Nat.lt_or_ge mid j with q2 | q2
    ·exact hc (e1.2 (bef_trans (hs.lt q2 h2) q))
    ·obtain rfl : j = mid := by omega
     exact hc (e1.2 q)
 ·obtain rfl : hi = lo := by omega
  simp only [Int.toNat_natCast]
  (refine KO_call rfl rfl rfl rfl ((order_ok S.wf (l.getD hi default) y).mono ?_); rintro _ h ⟨⟨c, rfl, e1, e2⟩, x⟩) <;> (replace S := S.join0 x; clear x; (first | (first | (refine cS ?_ ?_ <;> intro hc))) <;> (refine vl ?_; refine mv ?_; refine mv ?_; refine KO_nil ?_))
  all_goals (all_goals (repeat' (fail)))
  all_goals (refine K_ret ⟨_, rfl, ?_⟩)
  ·exact ⟨⟨hi, true, rfl, ⟨g2, g3, g4⟩, fun _ => ⟨by omega, e2.1 hc⟩, fun _ => rfl⟩, S.drop⟩
  ·exact ⟨⟨hi, false, rfl, ⟨g2, g3, g4⟩, fun q => (by cases q), fun q => absurd (e2.2 q.2) hc⟩, S.drop⟩
 ·obtain rfl : hi = lo := by omega
  all_goals (repeat' (fail))
  refine K_ret ⟨_, rfl, ?_⟩
  exact ⟨⟨hi, false, rfl, ⟨g2, g3, g4⟩, fun q => (by cases q), fun q => absurd q.1 (by omega)⟩, S.drop⟩
theorem place_ok {h0 : AH} (w : WfH h0) {p m : Nat} {vg vt : Value} {ts : List Ti} (hb : h0.get p = some (.cells [vg, vt, .map (some m)] 278 none false)) (hr : RdL h0 vt 3 eTi ts) (hl : ts.length ≤ 1000000) (hs : TS ts) (a b : List UInt8) :
 Fn Tryz.prog Xh 283 [.pointer (some ⟨p, 0, none⟩), str a, str b] h0 (fun u h' => (∃ (i : Nat) (f : Bool), u = .tuple #[.int .i64 i, .bool f] ∧ Plc ts ⟨sMin a b, sMax a b, 0⟩ i ∧ (f = true ↔ i < ts.length ∧ (ts.getD i default).a = sMin a b ∧ (ts.getD i default).b = sMax a b)) ∧ Hs h0 h' []) := by
 have S := Hs.start w
 refine Fn_K (by first | rfl) Tryz.func283 rfl rfl ?_
 all_goals (repeat' (first | refine K_seq ?_ | (refine K_region (id := 0) ?_; refine mv ?_; refine mv ?_; refine KO_nil ?_)))
 (repeat (refine K_seq ?_)); refine K_drawX (id := 1) [(4, (0, 1))] [some (p)] ?_; refine KX_cons ?_; (first | (refine mv ?_ <;> refine KO_nil ⟨⟨by (first | exact True.intro), rfl⟩, ?_⟩)); refine KX_cons ?_; (first | (refine vl ?_ <;> refine KO_nil ⟨⟨by (first | exact True.intro), rfl⟩, ?_⟩)); refine KX_cons ?_; (first | (refine vl ?_ <;> refine KO_nil ⟨⟨by (first | exact True.intro), rfl⟩, ?_⟩)); refine KX_cons ?_; (first | (refine vl ?_ <;> refine KO_nil ⟨⟨by (first | exact True.intro), rfl⟩, ?_⟩)); refine KX_cons ?_; (first | (refine lH S ?_ <;> refine KO_nil ⟨⟨by (first | exact Or.inr rfl), rfl⟩, ?_⟩)); refine KX_cons ?_; (first | (refine mv ?_ <;> refine KO_nil ⟨⟨by (first | exact True.intro), rfl⟩, ?_⟩)); refine KX_cons ?_; (first | (refine mv ?_ <;> refine KO_nil ⟨⟨by (first | exact True.intro), rfl⟩, ?_⟩))
 ((refine KX_cons ?_; first | refine KO_fn rfl rfl rfl rfl rfl ((pair_ok S.wf a b 0).mono ?_)); rintro _ h ⟨rfl, x⟩) <;> ((refine KO_nil ⟨⟨True.intro, ?_⟩, ?_⟩; (focus ((show keepsX _ _ _ _ _; simp only [keepsX]; (repeat' (first | exact True.intro | refine And.intro ?_ ?_)); all_goals (intro hw; first | exact x.ext.old _ (S.bY (by assumption) (by assumption))))))); replace S := S.join0 x; clear x)
 ((refine KX_cons ?_; first | refine KO_fn rfl rfl rfl rfl rfl ((bsearch_ok S.wf (hr.ext w S.ext) hl hs ⟨sMin a b, sMax a b, 0⟩).mono ?_)); rintro _ h ⟨⟨i, f, rfl, q1, q2⟩, x⟩) <;> ((refine KO_nil ⟨⟨True.intro, ?_⟩, ?_⟩; (focus ((show keepsX _ _ _ _ _; simp only [keepsX]; (repeat' (first | exact True.intro | refine And.intro ?_ ?_)); all_goals (intro hw; first | exact absurd hw (by decide +kernel)))))); replace S := S.join0 x; clear x; refine KX_cons ?_; (first | (refine vl ?_ <;> refine KO_nil ⟨⟨by (first | exact True.intro), rfl⟩, ?_⟩)); refine KX_cons ?_; (first | (refine vl ?_ <;> refine KO_nil ⟨⟨by (first | exact True.intro), rfl⟩, ?_⟩)); refine KX_cons ?_; (first | (refine mv ?_ <;> refine KO_nil ⟨⟨by (first | exact True.intro), rfl⟩, ?_⟩)); refine KX_cons ?_; (first | (refine mv ?_ <;> refine KO_nil ⟨⟨by (first | exact True.intro), rfl⟩, ?_⟩)); refine KX_nil ?_)
 all_goals (repeat' (fail))
 refine K_ret ⟨_, rfl, ?_⟩
 exact ⟨⟨i, f, rfl, q1, q2⟩, S.drop⟩
end Go.Proofs.Xx
namespace Go.Proofs.Xx
open Go Go.Proofs
set_option linter.unusedSimpArgs false
set_option linter.unusedVariables false
set_option maxRecDepth 100000
set_option linter.unusedSectionVars false
instance (x y : Ti) : Decidable (bef x y) := inferInstanceAs (Decidable (_ ∨ _))
def tiOf (a b : List UInt8) (k : Int) : Ti := ⟨sMin a b, sMax a b, k⟩
def tied (ts : List Ti) (a b : List UInt8) : Prop := ∃ t ∈ ts, t.a = sMin a b ∧ t.b = sMax a b
def putT : List Ti → Ti → List Ti
 | [], t => [t]
 | x :: r, t => if bef x t then x :: putT r t else t :: x :: r
open Classical in
noncomputable def tieF (r : Rl) (a b : List UInt8) (k : Int) : Rl × Int :=
 if (k ≠ 1 ∧ k ≠ 2) ∨ a = b then (r, 23) else if gat r.us a = none ∨ gat r.us b = none then (r, 6) else if tied r.ts a b then (r, 5) else if 256 ≤ r.ts.length then (r, 7) else (⟨r.us, putT r.ts (tiOf a b k)⟩, 0)
theorem putT_plc {t : Ti} : ∀ {l : List Ti} {i : Nat}, Plc l t i → putT l t = l.take i ++ t :: l.drop i
 | [], i, h => by simp [putT]
 | x :: r, 0, h => by
  have := h.2.2 0 (Nat.le_refl _) (by simp)
  show (if bef x t then _ else _) = _
  rw [if_neg (show ¬ bef x t from this)]; rfl
 | x :: r, i + 1, h => by
  have h0 := h.2.1 0 (Nat.succ_pos _)
  show (if bef x t then _ else _) = _
  rw [if_pos (show bef x t from h0), putT_plc (l := r) (i := i) ⟨by have := h.1; simp at this; omega, fun j hj => h.2.1 (j + 1) (by omega), fun j h1 h2 => h.2.2 (j + 1) (by omega) (by simp; omega)⟩]
  rfl
theorem Plc.tied {l : List Ti} {a b : List UInt8} {i : Nat} (hs : TS l) (h : Plc l ⟨sMin a b, sMax a b, 0⟩ i) : tied l a b ↔ i < l.length ∧ (l.getD i default).a = sMin a b ∧ (l.getD i default).b = sMax a b := by
 constructor
 ·rintro ⟨t, ht, e1, e2⟩
  obtain ⟨j, hj, rfl⟩ := List.mem_iff_getElem.1 ht
  have eg : l.getD j default = l[j] := by rw [List.getD_eq_getElem?_getD, List.getElem?_eq_getElem hj]; rfl
  have hji : i ≤ j := by
   rcases Nat.lt_or_ge j i with q | q
   ·have := h.2.1 j q
    rw [eg] at this
    rcases this with q | q
    ·rw [e1] at q; exact absurd q (sLt_irr _)
    ·rw [e2] at q; exact absurd q.2 (sLt_irr _)
   ·exact q
  rcases Nat.lt_or_ge i j with q | q
  ·have q1 := hs.lt q hj
   rw [eg] at q1
   refine absurd ?_ (h.2.2 i (Nat.le_refl _) (by omega))
   unfold bef at q1 ⊢
   rw [e1, e2] at q1
   exact q1
  ·obtain rfl : i = j := by omega
   rw [eg]; exact ⟨hj, e1, e2⟩
 ·rintro ⟨h1, h2, h3⟩
  refine ⟨_, List.getElem_mem h1, ?_⟩
  rw [show l[i] = l.getD i default by rw [List.getD_eq_getElem?_getD, List.getElem?_eq_getElem h1]; rfl]
  exact ⟨h2, h3⟩
theorem tieF_23 {r : Rl} {a b : List UInt8} {k : Int} (h : (k ≠ 1 ∧ k ≠ 2) ∨ a = b) : tieF r a b k = (r, 23) := by unfold tieF; rw [if_pos h]
theorem tieF_6 {r : Rl} {a b : List UInt8} {k : Int} (h : ¬ ((k ≠ 1 ∧ k ≠ 2) ∨ a = b)) (h2 : gat r.us a = none ∨ gat r.us b = none) : tieF r a b k = (r, 6) := by unfold tieF; rw [if_neg h, if_pos h2]
theorem tieF_5 {r : Rl} {a b : List UInt8} {k : Int} (h : ¬ ((k ≠ 1 ∧ k ≠ 2) ∨ a = b)) (h2 : ¬ (gat r.us a = none ∨ gat r.us b = none)) (h3 : tied r.ts a b) : tieF r a b k = (r, 5) := by unfold tieF; rw [if_neg h, if_neg h2, if_pos h3]
theorem tieF_7 {r : Rl} {a b : List UInt8} {k : Int} (h : ¬ ((k ≠ 1 ∧ k ≠ 2) ∨ a = b)) (h2 : ¬ (gat r.us a = none ∨ gat r.us b = none)) (h3 : ¬ tied r.ts a b) (h4 : 256 ≤ r.ts.length) : tieF r a b k = (r, 7) := by unfold tieF; rw [if_neg h, if_neg h2, if_neg h3, if_pos h4]
theorem tieF_0 {r : Rl} {a b : List UInt8} {k : Int} (h : ¬ ((k ≠ 1 ∧ k ≠ 2) ∨ a = b)) (h2 : ¬ (gat r.us a = none ∨ gat r.us b = none)) (h3 : ¬ tied r.ts a b) (h4 : ¬ 256 ≤ r.ts.length) : tieF r a b k = (⟨r.us, putT r.ts (tiOf a b k)⟩, 0) := by unfold tieF; rw [if_neg h, if_neg h2, if_neg h3, if_neg h4]
variable [Flag]
theorem insT_ok {h0 h : AH} {rs : List Rs} {vt : SlV} {v1 : Value} {l : List Ti} {t : Ti} (i : Nat) (hi : i ≤ l.length) (hl : l.length ≤ 1000000) (S : Hs h0 h (.sl v1 137 3 eRaw [eTi t] :: .sl vt.val 137 3 eTi l :: rs)) :
 Fn Tryz.prog Xh 284 [vt.val, .int .i64 i, v1] h (fun u h' => Hs h0 h' (.sl u 137 3 eTi (l.take i ++ t :: l.drop i) :: rs)) := by
 have hfl := flatMap_length (enc := eTi) (z := 3) (by intro _; rfl) l
 obtain ⟨f1, k1, k2, f2, k3, k4, k5⟩ := S.sep
 rcases k1 with ⟨-, k⟩ | ⟨vb, vo, vcc, vslk, vcap, rfl, g1, fv, t1, c1, s1⟩
 ·cases k
 replace S : Hs h0 h (.sl (.slice (some ⟨vb, vo, none⟩) 1 vcap) 137 3 eRaw [eTi t] :: .sl vt.val 137 3 eTi l :: rs) := S
 show Fn Tryz.prog Xh 284 [vt.val, .int .i64 i, .slice (some ⟨vb, vo, none⟩) 1 vcap] h _
 by_cases hlt : i < l.length
 ·rcases k3 with ⟨-, rfl⟩ | ⟨b, o, cc, slk, cap, e2, g2, fb, t2, c2, s2⟩
  ·exact absurd hlt (by simp)
  rw [e2]
  have hne : (!Nat.beq b vb) = true := by
   cases hq : Nat.beq b vb with
   | false => rfl
   | true => have := Nat.eq_of_beq_eq_true hq; subst this; exact absurd fv (k4 b fb).2.2.2
  have hone : ((l.flatMap eTi).all one?) = true := by
   rw [List.all_eq_true]
   intro x hx
   obtain ⟨y, -, hy⟩ := List.mem_flatMap.1 hx
   simp [eTi] at hy
   rcases hy with rfl | rfl | rfl <;> rfl
  refine Fn_known (v := .slice (some ⟨h.next, 0, none⟩) (l.length + 1) (l.length + 1)) (h' := (h.put b .dead).add (.cells ((l.flatMap eTi).take (i * 3) ++ (eTi t ++ (l.flatMap eTi).drop (i * 3))) 137 (some 3) false)) ?_ ?_
  ·show withIns X0 284 284 [.slice (some ⟨b, o, none⟩) l.length cap, .int .i64 (.ofNat i), .slice (some ⟨vb, vo, none⟩) 1 vcap] h = _
   unfold withIns
   have hb1 : Nat.blt i l.length = true := by rw [Nat.blt_eq]; exact hlt
   have t1' : takeAt vcc vo 3 = some (eTi t) := by simpa [eRaw] using t1
   have hc2 : Nat.ble (o + cap * 3) cc.length = true := Nat.ble_eq_true_of_le c2.2
   have hsz : Nat.ble ((l.length + 1) * 40) 140737488355328 = true := Nat.ble_eq_true_of_le (by omega)
   have hot : ((eTi t).all one?) = true := rfl
   simp only [show Nat.beq 284 284 = true from rfl, hb1, g2, g1, t2, t1', hc2, hsz, hone, hot, hne, Bool.and_true, show Nat.beq 137 137 = true from rfl]
   rcases s2 with rfl | rfl <;> rfl
  ·have W := (S.wf.put (k4 b fb).2.1 .dead)
   have S2 : Hs h0 ((h.put b .dead).add (.cells ((l.flatMap eTi).take (i * 3) ++ (eTi t ++ (l.flatMap eTi).drop (i * 3))) 137 (some 3) false)) (.sl (.slice (some ⟨vb, vo, none⟩) 1 vcap) 137 3 eRaw [eTi t] :: .sl (.slice (some ⟨h.next, 0, none⟩) (l.length + 1) (l.length + 1)) 137 3 eTi (l.take i ++ t :: l.drop i) :: rs) := by
    refine S.turn (.there .here) (Nat.le_succ _) (W.add _) fun fp q1 q2 => ?_
    rcases q1 with ⟨q1, -⟩ | ⟨b2, o2, cc2, sl2, cap2, q1, -, q3, -⟩
    ·rw [q1] at e2; cases e2
    obtain rfl : b2 = b := by rw [q1] at e2; cases e2; rfl
    refine ⟨fun j hj hf => ?_, fun j => j = h.next, .inr ⟨h.next, 0, (l.flatMap eTi).take (i * 3) ++ (eTi t ++ (l.flatMap eTi).drop (i * 3)), some 3, l.length + 1, ?_, ?_, rfl, ?_, ⟨?_, ?_⟩, .inr rfl⟩, fun j hj => ?_⟩
    ·rw [AH.get_add, if_neg (by show j ≠ h.next; omega), AH.get_put, if_neg]
     intro q; subst q; exact hf q3
    ·simp; omega
    ·rw [AH.get_add]; exact if_pos rfl
    ·have e : ((l.flatMap eTi).take (i * 3) ++ (eTi t ++ (l.flatMap eTi).drop (i * 3))) = (l.take i ++ t :: l.drop i).flatMap eTi := by
      rw [List.flatMap_append, List.flatMap_cons, flatMap_take (z := 3) (by intro _; rfl), flatMap_drop (z := 3) (by intro _; rfl)]
     rw [e]
     rw [← flatMap_length (enc := eTi) (z := 3) (by intro _; rfl)]
     exact takeAt_all _
    ·simp; omega
    ·simp [hfl, eTi]; omega
    ·subst hj; exact ⟨Nat.lt_succ_self _, .inr (Nat.le_refl _)⟩
   exact S2.tail
 ·obtain rfl : i = l.length := by omega
  have hX : Xh 284 [vt.val, .int .i64 l.length, .slice (some ⟨vb, vo, none⟩) 1 vcap] h = none := by
   rcases k3 with ⟨e2, rfl⟩ | ⟨b, o, cc, slk, cap, e2, -⟩
   ·rw [e2]; rfl
   ·rw [e2]
    show withIns X0 284 284 [.slice (some ⟨b, o, none⟩) l.length cap, .int .i64 (.ofNat l.length), .slice (some ⟨vb, vo, none⟩) 1 vcap] h = _
    unfold withIns
    have hb1 : Nat.blt l.length l.length = false := by rw [← Bool.not_eq_true, Nat.blt_eq]; omega
    simp only [show Nat.beq 284 284 = true from rfl, hb1]
    rfl
  have hr := Rd.of_sl S (.there .here)
  have hcap := S.capS (.there .here)
  refine Fn_K (hX) Tryz.func284 rfl rfl ?_
  all_goals (repeat' (first | refine K_seq ?_ | (refine K_region (id := 0) ?_; refine mv ?_; refine KO_nil ?_)))
  (repeat (refine K_seq ?_)); refine K_region (id := 1) ?_; refine mv ?_; refine mv ?_
  refine su l.length l.length hr hcap (fun v' _ _ => ?_)
  (refine KO_nil ?_)
  all_goals (repeat' (first | refine K_seq ?_ | refine k_cond rfl ?_ | refine K_skip ?_ | (refine K_region (id := 2) ?_; refine mv ?_; refine lnS S rfl rfl ?_; refine mv ?_; refine KO_nil ?_) | (refine K_region (id := 3) ?_; refine mv ?_; (first | (refine cS ?_ ?_ <;> intro hc)) <;> (refine KO_nil ?_)) | (refine K_region (id := 4) ?_; refine mv ?_; refine mv ?_; refine KO_nil ?_) | (refine K_region (id := 5) ?_; refine mv ?_; refine lnS S rfl rfl ?_; refine mv ?_; refine KO_nil ?_) | (refine K_region (id := 6) ?_; refine mv ?_; refine mv ?_; (refine cT ?_) <;> (refine KO_nil ?_)) | (refine K_region (id := 7) ?_; refine mv ?_; refine mv ?_)))
  ·simp at hc
  ·refine app (y0 := t) S rfl rfl ?_; clear S; intro v h S; (refine mv ?_; refine KO_nil ?_)
   all_goals (repeat' (fail))
   refine K_ret ⟨_, rfl, ?_⟩
   simp only [List.take_length, List.drop_length]
   exact S
  all_goals exact absurd rfl (by assumption)
theorem tie_ok {h0 h : AH} {rs : List Rs} {p : Nat} {r : Rl} (S : Hs h0 h (bookR p r :: rs)) (a b : List UInt8) (k : Int) (hl : r.ts.length ≤ 256) (hs : TS r.ts) :
 Fn Tryz.prog Xh 262 [.pointer (some ⟨p, 0, none⟩), str a, str b, .int .u8 k] h (fun v h' => v = .int .i64 (tieF r a b k).2 ∧ Hs h0 h' (bookR p (tieF r a b k).1 :: rs)) := by
 obtain ⟨⟨vg, vt, m, mp, gs⟩, ⟨q1, q2⟩, S⟩ := S.unpack
 have e1 : gs.length = r.us.length := by rw [← q1]; simp
 dsimp only [bkL, List.cons_append, List.nil_append] at q1 q2 S
 refine Fn_K (by first | rfl) Tryz.func262 rfl rfl ?_
 all_goals (repeat' (first | refine K_seq ?_ | (refine K_region (id := 0) ?_; refine mv ?_; refine KO_nil ?_) | (refine K_region (id := 1) ?_; refine mv ?_)))
 (refine KO_fn rfl rfl rfl rfl rfl ((bnone_ok S.wf (blk_get S .here)).mono ?_); rintro _ h ⟨rfl, x⟩) <;> (replace S := S.join0 x; clear x; refine KO_nil ?_)
 all_goals (repeat' (first | refine K_seq ?_ | refine k_cond rfl ?_ | refine K_skip ?_))
 (repeat (refine K_seq ?_)); first | refine K_join (σ := Unit) (fun _ h' => ¬ ((k ≠ 1 ∧ k ≠ 2) ∨ a = b) ∧ Hs h0 h' (.blk p [vg.val, vt.val, .map (some m)] 278 :: .sl vg.val 98 9 eG gs :: .sl vt.val 137 3 eTi r.ts :: .mp m (.int .i64) mp :: tgR gs :: rs)) (fun _ => [(0, .pointer (some ⟨p, 0, none⟩)), (1, str a), (2, str b), (3, .int .u8 k)]) ?_ ?_
 ·all_goals (repeat' (first | refine K_seq ?_ | refine k_cond rfl ?_ | refine K_skip ?_ | (refine K_region (id := 3) ?_; refine mv ?_; (first | (refine cS ?_ ?_ <;> intro hc)) <;> (refine mv ?_; (first | refine off ?_ | refine mv ?_); (first | refine off ?_ | (first | (refine cS ?_ ?_ <;> intro hc))) <;> (refine vl ?_; refine mv ?_; (first | refine off ?_ | refine mv ?_); (first | refine off ?_ | refine mv ?_); (first | refine off ?_ | (refine tS ?_ ?_ <;> intro hc)) <;> (refine vl ?_; refine KO_nil ?_)))) | (refine K_region (id := 4) ?_; refine mv ?_; refine KO_nil ?_)))
  all_goals first
   | exact ⟨(), ⟨by omega, S⟩, ((by repeat (fail)))⟩
   | exact ⟨(), ⟨by grind, S⟩, ((by repeat (first | exact Ks.le_nil _ | refine Ks.le_cons rfl ?_)))⟩
   | ((refine K_ret ⟨_, rfl, ?_⟩); rw [tieF_23 (by first | omega | grind)]; exact ⟨rfl, S.bk vg vt m mp gs q1 q2⟩)
 clear S
 rintro - h ⟨hk, S⟩
 all_goals (repeat' (first | refine K_seq ?_ | (refine K_region (id := 5) ?_; refine mv ?_; refine mv ?_)))
 refine bsn (α := List UInt8) (z := 1) eS [a, b] S ?_; clear S; intro u h S; ((refine lnS S rfl rfl ?_); refine mv ?_; refine KO_nil ?_)
 all_goals (repeat' (refine k_block ?_))
 refine k_loop (σ := Nat) (fun i h' => Hs h0 h' (.sl u 9 1 eS [a, b] :: .blk p [vg.val, vt.val, .map (some m)] 278 :: .sl vg.val 98 9 eG gs :: .sl vt.val 137 3 eTi r.ts :: .mp m (.int .i64) mp :: tgR gs :: rs) ∧ i ≤ 2 ∧ ∀ j, j < i → gat r.us ([a, b].getD j default) ≠ none) (fun i => 2 - i) (fun i => [(0, .pointer (some ⟨p, 0, none⟩)), (1, str a), (2, str b), (3, .int .u8 k), (30, u), (31, .int .i64 ([a, b].length : Nat)), (32, .int .i64 i)]) 0 (by repeat (first | exact Ks.le_nil _ | refine Ks.le_cons rfl ?_)) ?_ ?_
 ·exact ⟨S, Nat.zero_le _, fun j hj => absurd hj (Nat.not_lt_zero _)⟩
 clear S
 rintro i h ⟨S, g1, g2⟩
 all_goals (repeat' (first | refine K_seq ?_ | refine k_cond rfl ?_ | refine K_skip ?_ | refine K_exit ?_ | refine k_block ?_ | (refine K_region (id := 6) ?_; (first | (refine cS ?_ ?_ <;> intro hc)) <;> (refine KO_nil ?_)) | (refine K_region (id := 7) ?_; refine ixS2 S rfl rfl ?_; refine lES2 S rfl rfl ?_; refine mv ?_; refine KO_nil ?_) | (refine K_region (id := 8) ?_; refine mv ?_; refine vl ?_; refine vl ?_; refine lB S rfl rfl ?_; refine mv ?_) | (refine K_region (id := 12) ?_; refine mv ?_; refine mv ?_; refine mv ?_; skip)))
 ·have hi2 : i < 2 := by simp at hc; omega
  simp only [Int.toNat_natCast]
  refine lk S (.there (.there (.there (.there .here)))) (fun y hy => ?_) (fun hy => ?_)
  ·simp only [okV]
   (refine mv ?_; refine vl ?_; refine vl ?_; refine mv ?_; refine mv ?_; refine KO_nil ?_)
   all_goals (repeat' (first | refine K_seq ?_ | refine k_cond rfl ?_ | refine K_skip ?_ | (refine K_region (id := 9) ?_; refine mv ?_; refine vl ?_; refine KO_nil ?_) | (refine K_region (id := 11) ?_; refine ad ?_; refine mv ?_; refine KO_nil ?_)))
   refine ⟨i + 1, ?_, ?_, (by repeat (first | exact Ks.le_nil _ | refine Ks.le_cons rfl ?_))⟩
   ·show 2 - (i + 1) < 2 - i; omega
   ·refine ⟨S, by omega, nxtD g2 fun q => ?_⟩
    rw [q2, q] at hy; cases hy
  ·simp only [okV]
   (refine mv ?_; refine vl ?_; refine vl ?_; refine mv ?_; refine mv ?_; refine KO_nil ?_)
   all_goals (repeat' (first | refine K_seq ?_ | refine k_cond rfl ?_ | (refine K_region (id := 9) ?_; refine mv ?_; refine vl ?_; refine KO_nil ?_) | (refine K_region (id := 10) ?_; refine mv ?_; refine KO_nil ?_)))
   refine K_ret ⟨_, rfl, ?_⟩
   rw [q2] at hy
   have hn : gat r.us ([a, b].getD i default) = none := by
    cases hq : gat r.us ([a, b].getD i default) with
    | none => rfl
    | some z => rw [hq] at hy; cases hy
   rw [tieF_6 hk (by
    rcases (show i = 0 ∨ i = 1 by omega) with rfl | rfl
    ·exact .inl hn
    ·exact .inr hn)]
   exact ⟨rfl, S.bk vg vt m mp gs q1 q2⟩
 ·have hi2 : i = 2 := by simp at hc; omega
  have hk2 : ¬ (gat r.us a = none ∨ gat r.us b = none) := fun q => by
   rcases q with q | q
   ·exact g2 0 (by omega) q
   ·exact g2 1 (by omega) q
  (refine KO_fn rfl rfl rfl rfl rfl ((place_ok S.wf (blk_get S (.there .here)) (Rd.of_sl S (.there (.there (.there .here)))) (by omega) hs a b).mono ?_); rintro _ h ⟨⟨j, _ | _, rfl, p1, p2⟩, x⟩) <;> (replace S := S.join0 x; clear x; refine mv ?_; refine vl ?_; refine vl ?_; refine mv ?_; refine mv ?_; refine KO_nil ?_)
  ·have hk3 : ¬ tied r.ts a b := fun q => by have := p2.2 ((p1.tied hs).1 q); cases this
   all_goals (repeat' (first | refine K_seq ?_ | refine k_cond rfl ?_ | refine K_skip ?_ | (refine K_region (id := 13) ?_; refine mv ?_; refine KO_nil ?_) | (refine K_region (id := 15) ?_; refine mv ?_; refine vl ?_; refine vl ?_; refine vl ?_; refine lB S rfl rfl ?_; refine lnS S rfl rfl ?_; (first | (refine cS ?_ ?_ <;> intro hc)) <;> (refine KO_nil ?_)) | (refine K_region (id := 16) ?_; refine mv ?_; refine KO_nil ?_)))
   ·refine K_ret ⟨_, rfl, ?_⟩
    rw [tieF_7 hk hk2 hk3 (by omega)]
    exact ⟨rfl, S.bk vg vt m mp gs q1 q2⟩
   ·have hk4 : ¬ 256 ≤ r.ts.length := by omega
    (repeat (refine K_seq ?_)); refine K_drawX (id := 17) [(5, (0, 2))] [some (p)] ?_; refine KX_cons ?_; (first | (refine mv ?_ <;> refine KO_nil ⟨⟨by (first | exact True.intro), rfl⟩, ?_⟩)); refine KX_cons ?_; (first | (refine mv ?_ <;> refine KO_nil ⟨⟨by (first | exact True.intro), rfl⟩, ?_⟩)); refine KX_cons ?_; (first | (refine vl ?_ <;> refine KO_nil ⟨⟨by (first | exact True.intro), rfl⟩, ?_⟩)); refine KX_cons ?_; (first | (refine vl ?_ <;> refine KO_nil ⟨⟨by (first | exact True.intro), rfl⟩, ?_⟩)); refine KX_cons ?_; (first | (refine vl ?_ <;> refine KO_nil ⟨⟨by (first | exact True.intro), rfl⟩, ?_⟩)); refine KX_cons ?_; (first | (refine lB S rfl rfl ?_ <;> refine KO_nil ⟨⟨by (first | exact Or.inr rfl), rfl⟩, ?_⟩)); refine KX_cons ?_; (first | (refine mv ?_ <;> refine KO_nil ⟨⟨by (first | exact True.intro), rfl⟩, ?_⟩)); refine KX_cons ?_; (first | (refine mv ?_ <;> refine KO_nil ⟨⟨by (first | exact True.intro), rfl⟩, ?_⟩)); refine KX_cons ?_; (first | (refine mv ?_ <;> refine KO_nil ⟨⟨by (first | exact True.intro), rfl⟩, ?_⟩)); refine KX_cons ?_; (first | (refine mv ?_ <;> refine KO_nil ⟨⟨by (first | exact True.intro), rfl⟩, ?_⟩))
    ((refine KX_cons ?_; first | refine KO_fn rfl rfl rfl rfl rfl ((pair_ok S.wf a b k).mono ?_)); rintro _ h ⟨rfl, x⟩) <;> ((refine KO_nil ⟨⟨True.intro, ?_⟩, ?_⟩; (focus ((show keepsX _ _ _ _ _; simp only [keepsX]; (repeat' (first | exact True.intro | refine And.intro ?_ ?_)); all_goals (intro hw; first | exact x.ext.old _ S.bB))))); replace S := S.join0 x; clear x; refine KX_cons ?_; (first | ((refine one 3 S ?_; have S0 := S; clear S; intro u h S); refine KO_nil ⟨⟨True.intro, ?_⟩, ?_⟩; (focus ((show keepsX _ _ _ _ _; simp only [keepsX]; (repeat' (first | exact True.intro | refine And.intro ?_ ?_)); all_goals (intro hw; first | exact (S.gB).trans (S0.gB).symm)))); clear S0)))
    replace S : Hs h0 _ (.sl u 137 3 eRaw [eTi (tiOf a b k)] :: _) := S
    have S := (show Hs h0 _ (.sl u 137 3 eRaw [eTi (tiOf a b k)] :: .sl vt.val 137 3 eTi r.ts :: .blk p [vg.val, vt.val, .map (some m)] 278 :: .sl vg.val 98 9 eG gs :: .mp m (.int .i64) mp :: tgR gs :: rs) from S.pick)
    refine KX_cons ?_; refine KO_fn rfl rfl rfl rfl rfl ((insT_ok j p1.1 (by omega) S).mono ?_); have S0 := S; clear S; rintro v h S; obtain ⟨vt', rfl⟩ := S.sV v; refine KO_nil ⟨⟨True.intro, ?_⟩, ?_⟩; (focus ((show keepsX _ _ _ _ _; simp only [keepsX]; (repeat' (first | exact True.intro | refine And.intro ?_ ?_)); all_goals (intro hw; first | exact absurd hw (by decide +kernel))))); clear S0; (refine KX_cons ?_; (first | (refine vl ?_ <;> refine KO_nil ⟨⟨by (first | exact True.intro), rfl⟩, ?_⟩)); refine KX_cons ?_; (first | (refine vl ?_ <;> refine KO_nil ⟨⟨by (first | exact True.intro), rfl⟩, ?_⟩)); refine KX_cons ?_; (first | (refine vl ?_ <;> refine KO_nil ⟨⟨by (first | exact True.intro), rfl⟩, ?_⟩)); refine KX_cons ?_; (first | ((refine sB S rfl rfl ?_; have S0 := S; clear S; intro h S); refine KO_nil ⟨⟨True.intro, ?_⟩, ?_⟩; (focus ((show keepsX _ _ _ _ _; simp only [keepsX]; (repeat' (first | exact True.intro | refine And.intro ?_ ?_)); all_goals (intro hw; first | exact absurd hw (by decide +kernel))))); clear S0)); refine KX_nil ?_)
    all_goals (repeat' (first | refine K_seq ?_ | (refine K_region (id := 18) ?_; refine mv ?_; refine KO_nil ?_)))
    refine K_ret ⟨_, rfl, ?_⟩
    rw [tieF_0 hk hk2 hk3 hk4, putT_plc (t := tiOf a b k) p1]
    replace S : Hs h0 h (.sl vt'.val 137 3 eTi (r.ts.take j ++ tiOf a b k :: r.ts.drop j) :: .blk p [vg.val, vt'.val, .map (some m)] 278 :: _) := S
    exact ⟨rfl, S.bk vg vt' m mp gs q1 q2⟩
  ·have hk3 : tied r.ts a b := (p1.tied hs).2 (p2.1 rfl)
   skip
   all_goals (repeat' (first | refine K_seq ?_ | refine k_cond rfl ?_ | (refine K_region (id := 13) ?_; refine mv ?_; refine KO_nil ?_) | (refine K_region (id := 14) ?_; refine mv ?_; refine KO_nil ?_)))
   refine K_ret ⟨_, rfl, ?_⟩
   rw [tieF_5 hk hk2 hk3]
   exact ⟨rfl, S.bk vg vt m mp gs q1 q2⟩
end Go.Proofs.Xx
namespace Go.Proofs.Xx
open Go Go.Proofs
set_option linter.unusedSimpArgs false
set_option linter.unusedVariables false
set_option linter.unusedSectionVars false
set_option maxRecDepth 100000
structure RlV where
 vg : SlV
 vt : SlV
 gs : List Gst
def RlV.val (v : RlV) : Value := .agg #[v.vg.val, v.vt.val]
structure RlOk (h : AH) (v : RlV) (r : Rl) : Prop where
 rg : RdL h v.vg.val 9 eG v.gs
 rt : RdL h v.vt.val 3 eTi r.ts
 tg : ∀ i, i < v.gs.length → RdL h (v.gs.getD i default).tv.val 1 eS (v.gs.getD i default).tg ∧ (v.gs.getD i default).tg.length ≤ 9223372036854775807
 us : v.gs.map (·.toGu) = r.us
 lg : r.us.length ≤ 9223372036854775807
 lt : r.ts.length ≤ 9223372036854775807
theorem RlOk.ext {h h' : AH} {v : RlV} {r : Rl} (a : RlOk h v r) (w : WfH h) (x : Ext h h') : RlOk h' v r := ⟨a.rg.ext w x, a.rt.ext w x, fun i hi => ⟨(a.tg i hi).1.ext w x, (a.tg i hi).2⟩, a.us, a.lg, a.lt⟩
theorem RlOk.len {h : AH} {v : RlV} {r : Rl} (a : RlOk h v r) : v.gs.length = r.us.length := by rw [← a.us]; simp
theorem map_getD {α β : Type} [Inhabited α] [Inhabited β] {f : α → β} {l : List α} {i : Nat} (hi : i < l.length) : (l.map f).getD i default = f (l.getD i default) := by
 rw [List.getD_eq_getElem?_getD, List.getD_eq_getElem?_getD, List.getElem?_map, List.getElem?_eq_getElem hi]; rfl
theorem RlOk.at_ {h : AH} {v : RlV} {r : Rl} (a : RlOk h v r) {i : Nat} (hi : i < v.gs.length) : (v.gs.getD i default).toGu = r.us.getD i default := by rw [← a.us, map_getD hi]
noncomputable def gE0 (us : List Gu) (i : Nat) : Int := (addF ⟨us.take i, []⟩ (us.getD i default)).2
open Classical in
noncomputable def tE0 (r : Rl) (i : Nat) : Int :=
 if sLt (r.ts.getD i default).a (r.ts.getD i default).b ∧ (i = 0 ∨ ¬ bef (r.ts.getD i default) (r.ts.getD (i - 1) default)) then (tieF ⟨r.us, r.ts.take i⟩ (r.ts.getD i default).a (r.ts.getD i default).b (r.ts.getD i default).k).2 else 23
def VRl (r : Rl) : Prop := (∀ i, i < r.us.length → gE0 r.us i = 0) ∧ ∀ i, i < r.ts.length → tE0 r i = 0
def Bad (r : Rl) (i e : Int) : Prop := e ≠ 0 ∧ ((∃ j : Nat, j < r.us.length ∧ (∀ k, k < j → gE0 r.us k = 0) ∧ gE0 r.us j = e ∧ i = j) ∨ ((∀ k, k < r.us.length → gE0 r.us k = 0) ∧ ∃ j : Nat, j < r.ts.length ∧ (∀ k, k < j → tE0 r k = 0) ∧ tE0 r j = e ∧ i = r.us.length + j))
theorem first_uniq {p : Nat → Int} {j k : Nat} (h1 : ∀ i, i < j → p i = 0) (h2 : p j ≠ 0) (h3 : ∀ i, i < k → p i = 0) (h4 : p k ≠ 0) : j = k := by
 rcases Nat.lt_trichotomy j k with q | q | q
 ·exact absurd (h3 j q) h2
 ·exact q
 ·exact absurd (h1 k q) h4
theorem Bad.uniq {r : Rl} {i e i' e' : Int} (a : Bad r i e) (b : Bad r i' e') : i = i' ∧ e = e' := by
 obtain ⟨h1, a⟩ := a
 obtain ⟨h2, b⟩ := b
 rcases a with ⟨j, a1, a2, a3, a4⟩ | ⟨a0, j, a1, a2, a3, a4⟩ <;> rcases b with ⟨k, b1, b2, b3, b4⟩ | ⟨b0, k, b1, b2, b3, b4⟩
 ·obtain rfl := first_uniq a2 (a3 ▸ h1) b2 (b3 ▸ h2)
  exact ⟨a4.trans b4.symm, a3.symm.trans b3⟩
 ·exact absurd (b0 j a1) (a3 ▸ h1)
 ·exact absurd (a0 k b1) (b3 ▸ h2)
 ·obtain rfl := first_uniq a2 (a3 ▸ h1) b2 (b3 ▸ h2)
  exact ⟨a4.trans b4.symm, a3.symm.trans b3⟩
theorem Bad.not {r : Rl} {i e : Int} (a : Bad r i e) : ¬ VRl r := fun v => by
 obtain ⟨h1, ⟨j, a1, a2, a3, a4⟩ | ⟨a0, j, a1, a2, a3, a4⟩⟩ := a
 ·exact h1 (a3 ▸ v.1 j a1)
 ·exact h1 (a3 ▸ v.2 j a1)
theorem addF_zero {r : Rl} {g : Gu} (h : (addF r g).2 = 0) : chkG g = 0 ∧ gat r.us g.name = none ∧ r.us.length < 64 ∧ (addF r g).1 = ⟨r.us ++ [g], r.ts⟩ := by
 by_cases h1 : chkG g = 0
 ·by_cases h2 : gat r.us g.name = none
  ·by_cases h3 : 64 ≤ r.us.length
   ·rw [addF_7 h1 h2 h3] at h; cases h
   ·rw [addF_0 h1 h2 h3]; exact ⟨h1, h2, by omega, rfl⟩
  ·rw [addF_5 h1 h2] at h; cases h
 ·rw [addF_e h1] at h; exact absurd h h1
theorem tieF_zero {r : Rl} {a b : List UInt8} {k : Int} (h : (tieF r a b k).2 = 0) : (k = 1 ∨ k = 2) ∧ a ≠ b ∧ gat r.us a ≠ none ∧ gat r.us b ≠ none ∧ ¬ tied r.ts a b ∧ r.ts.length < 256 ∧ (tieF r a b k).1 = ⟨r.us, putT r.ts (tiOf a b k)⟩ := by
 by_cases h1 : (k ≠ 1 ∧ k ≠ 2) ∨ a = b
 ·rw [tieF_23 h1] at h; cases h
 ·by_cases h2 : gat r.us a = none ∨ gat r.us b = none
  ·rw [tieF_6 h1 h2] at h; cases h
  ·by_cases h3 : tied r.ts a b
   ·rw [tieF_5 h1 h2 h3] at h; cases h
   ·by_cases h4 : 256 ≤ r.ts.length
    ·rw [tieF_7 h1 h2 h3 h4] at h; cases h
    ·rw [tieF_0 h1 h2 h3 h4]
     exact ⟨by omega, fun q => h1 (.inr q), fun q => h2 (.inl q), fun q => h2 (.inr q), h3, by omega, rfl⟩
theorem take_succ_getD {α : Type} [Inhabited α] {l : List α} {i : Nat} (hi : i < l.length) : l.take (i + 1) = l.take i ++ [l.getD i default] := by
 rw [List.take_add_one, List.getD_eq_getElem?_getD, List.getElem?_eq_getElem hi]; rfl
theorem gE0_len {us : List Gu} {i : Nat} (hi : i ≤ us.length) (h : ∀ k, k < i → gE0 us k = 0) : i ≤ 64 := by
 cases i with
 | zero => omega
 | succ i =>
  have := (addF_zero (h i (Nat.lt_succ_self i))).2.2.1
  simp at this; omega
theorem getD_take {α : Type} [Inhabited α] {l : List α} {i j : Nat} (h : j < i) : (l.take i).getD j default = l.getD j default := by
 rw [List.getD_eq_getElem?_getD, List.getD_eq_getElem?_getD, List.getElem?_take, if_pos h]
theorem TS.mk_ {ts : List Ti} (h : ∀ i j, i < j → j < ts.length → bef (ts.getD i default) (ts.getD j default)) : TS ts := by
 rw [TS, List.pairwise_iff_getElem]
 intro i j hi hj hij
 have := h i j hij hj
 rw [List.getD_eq_getElem?_getD, List.getD_eq_getElem?_getD, List.getElem?_eq_getElem hj, List.getElem?_eq_getElem hi] at this
 exact this
theorem TS.app {ts : List Ti} {t : Ti} (h : TS ts) (h2 : ∀ j, j < ts.length → bef (ts.getD j default) t) : TS (ts ++ [t]) := TS.mk_ fun i j hij hj => by
 simp at hj
 rw [gA1 (show i < ts.length by omega)]
 rcases Nat.lt_or_ge j ts.length with q | q
 ·rw [gA1 q]; exact h.lt hij q
 ·obtain rfl : j = ts.length := by omega
  rw [gA2 (Nat.le_refl _), Nat.sub_self]; exact h2 i (by omega)
theorem tE0_zero {r : Rl} {i : Nat} (h : tE0 r i = 0) : sLt (r.ts.getD i default).a (r.ts.getD i default).b ∧ (i = 0 ∨ ¬ bef (r.ts.getD i default) (r.ts.getD (i - 1) default)) ∧ (tieF ⟨r.us, r.ts.take i⟩ (r.ts.getD i default).a (r.ts.getD i default).b (r.ts.getD i default).k).2 = 0 := by
 unfold tE0 at h
 split at h
 ·rename_i q; exact ⟨q.1, q.2, h⟩
 ·cases h
theorem sMin_lt {a b : List UInt8} (h : sLt a b) : sMin a b = a := by unfold sMin; rw [if_neg (sLt_asymm h)]
theorem sMax_lt {a b : List UInt8} (h : sLt a b) : sMax a b = b := by unfold sMax; rw [if_pos h]
theorem tE0_ts {r : Rl} : ∀ {i : Nat}, i ≤ r.ts.length → (∀ k, k < i → tE0 r k = 0) → TS (r.ts.take i) ∧ (i < r.ts.length → tE0 r i = 0 → ∀ j, j < i → bef (r.ts.getD j default) (r.ts.getD i default))
 | i, hi, h => by
  have key : ∀ i, i ≤ r.ts.length → (∀ k, k < i → tE0 r k = 0) → TS (r.ts.take i) → i < r.ts.length → tE0 r i = 0 → ∀ j, j < i → bef (r.ts.getD j default) (r.ts.getD i default) := by
   intro i hi h hs hl h0 j hj
   obtain ⟨z1, z2, z3⟩ := tE0_zero h0
   have z4 := (tieF_zero z3).2.2.2.2.1
   have hp : bef (r.ts.getD (i - 1) default) (r.ts.getD i default) := by
    rcases bef_tri (r.ts.getD (i - 1) default) (r.ts.getD i default) with q | ⟨e1, e2⟩ | q
    ·exact q
    ·refine absurd ⟨r.ts.getD (i - 1) default, ?_, ?_⟩ z4
     ·rw [← getD_take (show i - 1 < i by omega)]
      have hl2 : i - 1 < (r.ts.take i).length := by simp; omega
      rw [List.getD_eq_getElem?_getD, List.getElem?_eq_getElem hl2]
      exact List.getElem_mem hl2
     ·rw [sMin_lt z1, sMax_lt z1]; exact ⟨e1, e2⟩
    ·rcases z2 with z2 | z2
     ·omega
     ·exact absurd q z2
   rcases Nat.lt_or_ge j (i - 1) with q | q
   ·have hl2 : i - 1 < (r.ts.take i).length := by simp; omega
    have := hs.lt q hl2
    rw [getD_take (by omega), getD_take (by omega)] at this
    exact bef_trans this hp
   ·obtain rfl : j = i - 1 := by omega
    exact hp
  have all : ∀ i, i ≤ r.ts.length → (∀ k, k < i → tE0 r k = 0) → TS (r.ts.take i) := by
   intro i
   induction i with
   | zero => intro _ _; simp [TS]
   | succ i ih =>
    intro hi h
    have hs := ih (by omega) fun k hk => h k (by omega)
    rw [take_succ_getD (by omega)]
    refine hs.app fun j hj => ?_
    simp at hj
    rw [getD_take (by omega)]
    exact key i (by omega) (fun k hk => h k (by omega)) hs (by omega) (h i (by omega)) j (by omega)
  exact ⟨all i hi h, key i hi h (all i hi h)⟩
theorem tE0_len {r : Rl} {i : Nat} (hi : i ≤ r.ts.length) (h : ∀ k, k < i → tE0 r k = 0) : i ≤ 256 := by
 cases i with
 | zero => omega
 | succ i =>
  have := (tieF_zero (tE0_zero (h i (Nat.lt_succ_self i))).2.2).2.2.2.2.2.1
  simp at this; omega
theorem tE0_put {r : Rl} {i : Nat} (hi : i < r.ts.length) (h : ∀ k, k < i → tE0 r k = 0) (h0 : tE0 r i = 0) : (tieF ⟨r.us, r.ts.take i⟩ (r.ts.getD i default).a (r.ts.getD i default).b (r.ts.getD i default).k).1 = ⟨r.us, r.ts.take (i + 1)⟩ := by
 obtain ⟨z1, z2, z3⟩ := tE0_zero h0
 rw [(tieF_zero z3).2.2.2.2.2.2]
 have e : tiOf (r.ts.getD i default).a (r.ts.getD i default).b (r.ts.getD i default).k = r.ts.getD i default := by unfold tiOf; rw [sMin_lt z1, sMax_lt z1]
 have hl : (r.ts.take i).length = i := by simp; omega
 show (⟨r.us, putT (r.ts.take i) _⟩ : Rl) = _
 rw [e, putT_plc (i := i) ⟨by omega, fun j hj => by rw [getD_take hj]; exact (tE0_ts (by omega) h).2 hi h0 j hj, fun j h1 h2 => by omega⟩, take_succ_getD hi]
 simp [List.take_take]
theorem cmp_le {c : Int} {x t : Ti} (e1 : c < 0 ↔ bef x t) (e2 : c = 0 ↔ x.a = t.a ∧ x.b = t.b) : c ≤ 0 ↔ ¬ bef t x := by
 constructor
 ·intro z q
  rcases Int.lt_or_eq_of_le z with z | z
  ·exact bef_irr _ (bef_trans (e1.1 z) q)
  ·have := e2.1 z
   rcases q with q | q
   ·rw [this.1] at q; exact sLt_irr _ q
   ·rw [this.2] at q; exact sLt_irr _ q.2
 ·intro z
  rcases bef_tri x t with q | q | q
  ·have := e1.2 q; omega
  ·have := e2.2 q; omega
  ·exact absurd q z
variable [Flag]
theorem load_ok {h0 : AH} (w : WfH h0) (v : RlV) (r : Rl) (H : RlOk h0 v r) :
 Fn Tryz.prog Xh 203 [v.val] h0 (fun u h' => (∃ p, u = .tuple #[.pointer (some ⟨p, 0, none⟩), .int .i64 0, .int .i64 0] ∧ VRl r ∧ Hs h0 h' [bookR p r]) ∨ (∃ i e, u = .tuple #[.pointer none, .int .i64 i, .int .i64 e] ∧ Bad r i e ∧ Hs h0 h' [])) := by
 have S := Hs.start w
 have hgl := H.len
 have hrg := H.rg
 have hrt := H.rt
 have hlg := H.lg
 have hlt := H.lt
 unfold RlV.val
 refine Fn_K (by first | rfl) Tryz.func203 rfl rfl ?_
 all_goals (repeat' (first | refine K_seq ?_ | (refine K_region (id := 0) ?_; (refine bx S ?_; clear S; intro b h S); refine mv ?_; refine mv ?_; refine mv ?_; refine KO_nil ?_) | (refine K_region (id := 1) ?_; skip)))
 (refine KO_fn rfl rfl rfl rfl rfl ((new_ok S.wf).mono ?_); rintro _ h ⟨p, rfl, x⟩) <;> (replace S := S.join1 x; clear x; refine mv ?_; refine KO_nil ?_)
 all_goals (repeat' (first | refine K_seq ?_ | refine k_block ?_ | (refine K_region (id := 2) ?_; refine vl ?_; refine lB S rfl rfl ?_; refine lnB S ?_; refine mv ?_; refine KO_nil ?_)))
 obtain ⟨q, hnm⟩ : ∃ x, x = b := ⟨_, rfl⟩; subst hnm
 replace S : Hs h0 h [bookR p ⟨[], []⟩, .blk q [v.vg.val, v.vt.val] 158] := S
 refine k_loop (σ := Nat) (fun i h' => Hs h0 h' [bookR p ⟨r.us.take i, []⟩, .blk q [v.vg.val, v.vt.val] 158] ∧ i ≤ r.us.length ∧ ∀ k, k < i → gE0 r.us k = 0) (fun i => r.us.length - i) (fun i => [(1, .pointer (some ⟨q, 0, none⟩)), (5, .pointer (some ⟨p, 0, none⟩)), (14, v.vg.val), (15, .int .i64 v.gs.length), (16, .int .i64 i)]) 0 (by repeat (first | exact Ks.le_nil _ | refine Ks.le_cons rfl ?_)) ?_ ?_
 ·exact ⟨S, Nat.zero_le _, fun j hj => absurd hj (Nat.not_lt_zero _)⟩
 clear S
 rintro i h ⟨S, g1, g2⟩
 have hi64 := gE0_len g1 g2
 all_goals (repeat' (first | refine K_seq ?_ | refine k_cond rfl ?_ | refine K_skip ?_ | refine K_exit ?_ | refine k_block ?_ | (refine K_region (id := 3) ?_; (first | (refine cS ?_ ?_ <;> intro hc)) <;> (refine KO_nil ?_)) | (refine K_region (id := 4) ?_; refine mv ?_; refine ixB S ?_; refine lEB S ?_; (refine al S ?_; clear S; intro b h S); refine mv ?_; (first | (refine sB S rfl rfl ?_; clear S; intro h S)); refine KO_nil ?_) | (refine K_region (id := 5) ?_; refine mv ?_; refine lB S rfl rfl ?_) | (refine K_region (id := 9) ?_; refine vl ?_; refine lB S rfl rfl ?_; refine lnB S ?_; refine mv ?_; refine KO_nil ?_)))
 ·have hil : i < v.gs.length := by omega
  have hat := H.at_ hil
  simp only [Int.toNat_natCast] at S
  simp only [Int.toNat_natCast]
  have htl : (r.us.take i).length ≤ 64 := by simp; omega
  (refine KO_fn rfl rfl rfl rfl rfl ((add_ok (S.front (.there .here)) (v.gs.getD i default) (RdS.base w (H.tg i hil).1) (H.tg i hil).2 htl).mono ?_); rintro _ h ⟨rfl, S⟩) <;> (refine mv ?_; refine KO_nil ?_)
  rw [hat] at S
  simp only [hat]
  all_goals (repeat' (first | refine K_seq ?_ | refine k_cond rfl ?_ | refine K_skip ?_ | (refine K_region (id := 6) ?_; refine mv ?_; (first | (refine cS ?_ ?_ <;> intro hc)) <;> (refine KO_nil ?_)) | (refine K_region (id := 7) ?_; refine mv ?_; refine mv ?_; refine mv ?_; refine mv ?_; refine mv ?_; refine KO_nil ?_) | (refine K_region (id := 8) ?_; refine ad ?_; refine mv ?_; refine KO_nil ?_)))
  ·refine K_ret ⟨_, rfl, ?_⟩
   exact .inr ⟨i, _, rfl, ⟨hc, .inl ⟨i, by omega, g2, rfl, rfl⟩⟩, S.drop⟩
  ·have hz : gE0 r.us i = 0 := Classical.not_not.1 hc
   rw [(addF_zero hz).2.2.2] at S
   refine ⟨i + 1, ?_, ?_, (by repeat (first | exact Ks.le_nil _ | refine Ks.le_cons rfl ?_))⟩
   ·show r.us.length - (i + 1) < r.us.length - i; omega
   ·refine ⟨?_, by omega, nxtD g2 hz⟩
    rw [take_succ_getD (by omega)]
    exact S.pick
 ·obtain rfl : i = r.us.length := by omega
  rw [List.take_length] at S
  refine k_loop (σ := Nat) (fun i h' => Hs h0 h' [bookR p ⟨r.us, r.ts.take i⟩, .blk q [v.vg.val, v.vt.val] 158] ∧ i ≤ r.ts.length ∧ ∀ k, k < i → tE0 r k = 0) (fun i => r.ts.length - i) (fun i => [(1, .pointer (some ⟨q, 0, none⟩)), (5, .pointer (some ⟨p, 0, none⟩)), (30, v.vt.val), (31, .int .i64 r.ts.length), (32, .int .i64 i)]) 0 (by repeat (first | exact Ks.le_nil _ | refine Ks.le_cons rfl ?_)) ?_ ?_
  ·exact ⟨S, Nat.zero_le _, fun j hj => absurd hj (Nat.not_lt_zero _)⟩
  clear S
  rintro i h ⟨S, k1, k2⟩
  have hi256 := tE0_len k1 k2
  have hTS := (tE0_ts k1 k2).1
  have htl : (r.ts.take i).length ≤ 256 := by simp; omega
  all_goals (repeat' (first | refine K_seq ?_ | refine k_cond rfl ?_ | refine K_skip ?_ | refine K_exit ?_ | refine k_block ?_ | (refine K_region (id := 10) ?_; (first | (refine cS ?_ ?_ <;> intro hc)) <;> (refine KO_nil ?_)) | (refine K_region (id := 11) ?_; refine mv ?_; refine ixB S ?_; refine lEB S ?_; (refine al S ?_; clear S; intro b h S); refine mv ?_; (first | (refine sB S rfl rfl ?_; clear S; intro h S)); refine KO_nil ?_) | (refine K_region (id := 12) ?_; refine mv ?_; refine KO_nil ?_) | (refine K_region (id := 18) ?_; refine mv ?_; refine mv ?_; refine mv ?_; refine mv ?_; refine KO_nil ?_)))
  ·obtain ⟨t, ht⟩ : ∃ t, t = r.ts.getD i default := ⟨_, rfl⟩
   simp only [Int.toNat_natCast] at S
   simp only [Int.toNat_natCast]
   replace S : Hs h0 h [.blk b (eTi t) 137, bookR p ⟨r.us, r.ts.take i⟩, .blk q [v.vg.val, v.vt.val] 158] := by rw [ht]; exact S
   (repeat (refine K_seq ?_)); first | refine K_join (σ := Rl) (fun r' h' => Hs h0 h' [bookR p r', .blk q [v.vg.val, v.vt.val] 158] ∧ (tE0 r i = 0 → r' = ⟨r.us, r.ts.take (i + 1)⟩)) (fun r' => [(1, .pointer (some ⟨q, 0, none⟩)), (5, .pointer (some ⟨p, 0, none⟩)), (9, .int .i64 i), (11, .int .i64 (tE0 r i)), (30, v.vt.val), (31, .int .i64 r.ts.length), (32, .int .i64 i)]) ?_ ?_
   ·have he1 : sLt t.a t.b → (i = 0 ∨ ¬ bef t (r.ts.getD (i - 1) default)) → tE0 r i = (tieF ⟨r.us, r.ts.take i⟩ t.a t.b t.k).2 := fun z1 z2 => by rw [ht] at z1 z2 ⊢; unfold tE0; rw [if_pos ⟨z1, z2⟩]
    have he2 : ¬ (sLt t.a t.b ∧ (i = 0 ∨ ¬ bef t (r.ts.getD (i - 1) default))) → tE0 r i = 23 := fun z => by rw [ht] at z; unfold tE0; rw [if_neg z]
    have he3 : tE0 r i = 0 → (tieF ⟨r.us, r.ts.take i⟩ t.a t.b t.k).1 = ⟨r.us, r.ts.take (i + 1)⟩ := fun z => by rw [ht]; exact tE0_put (by omega) k2 z
    all_goals (repeat' (first | refine k_cond rfl ?_ | refine K_skip ?_ | (refine K_draw (id := 13) ?_; refine vl ?_; refine lB S rfl rfl ?_; refine vl ?_; refine lB S rfl rfl ?_; (refine tO ?_ ?_ <;> intro hc) <;> (refine mv ?_; (first | refine off ?_ | refine mv ?_); (first | refine off ?_ | (first | (refine cS ?_ ?_ <;> intro hc))) <;> ((first | refine off ?_ | refine mv ?_); (first | refine off ?_ | (refine vl ?_)); (first | refine off ?_ | (refine lB S rfl rfl ?_)); (first | refine off ?_ | refine mv ?_); (first | refine off ?_ | (refine sb ?_)); (first | refine off ?_ | (refine ixB S ?_)); (first | refine off ?_ | (refine lEB S ?_)); (first | refine off ?_ | (refine lB S rfl rfl ?_)); (first | (refine off ?_; (refine off ?_) <;> ((first | refine off ?_ | refine vl ?_); refine vl ?_; refine KO_nil ?_)) | skip))))))
    ·all_goals (repeat' (first | (refine K_region (id := 14) ?_; refine mv ?_; refine vl ?_; refine lB S rfl rfl ?_; refine vl ?_; refine lB S rfl rfl ?_; refine vl ?_; refine lB S rfl rfl ?_)))
     (refine KO_fn rfl rfl rfl rfl rfl ((tie_ok (S.front (.there .here)) t.a t.b t.k htl hTS).mono ?_); rintro _ h ⟨rfl, S⟩) <;> (refine mv ?_; refine KO_nil ?_)
     have he := he1 (by assumption) (.inl (by omega))
     refine ⟨_, ⟨S.pick, he3⟩, ?_⟩
     rw [he]
     exact (by repeat (first | exact Ks.le_nil _ | refine Ks.le_cons rfl ?_))
    ·(refine KO_fn rfl rfl rfl rfl rfl ((order_ok S.wf (r.ts.getD ((i : Int) - 1).toNat default) t).mono ?_); rintro _ h ⟨⟨c, rfl, e1, e2⟩, x⟩) <;> (replace S := S.join0 x; clear x; (first | (first | (refine cS ?_ ?_ <;> intro hc))) <;> ((refine vl ?_); refine vl ?_; refine KO_nil ?_))
     all_goals rw [show ((i : Int) - 1).toNat = i - 1 by omega] at e1 e2
     all_goals have ec := cmp_le e1 e2
     all_goals (repeat' (first | refine k_cond rfl ?_ | refine K_skip ?_))
     ·all_goals (repeat' (first | (refine K_region (id := 14) ?_; refine mv ?_; refine vl ?_; refine lB S rfl rfl ?_; refine vl ?_; refine lB S rfl rfl ?_; refine vl ?_; refine lB S rfl rfl ?_)))
      (refine KO_fn rfl rfl rfl rfl rfl ((tie_ok (S.front (.there .here)) t.a t.b t.k htl hTS).mono ?_); rintro _ h ⟨rfl, S⟩) <;> (refine mv ?_; refine KO_nil ?_)
      have he := he1 (by assumption) (.inr (ec.1 (by assumption)))
      refine ⟨_, ⟨S.pick, he3⟩, ?_⟩
      rw [he]
      exact (by repeat (first | exact Ks.le_nil _ | refine Ks.le_cons rfl ?_))
     ·have he := he2 (fun z => z.2.elim (fun q => by omega) (fun q => absurd (ec.2 q) (by assumption)))
      refine ⟨⟨r.us, r.ts.take i⟩, ⟨S.pick, fun q => by rw [he] at q; cases q⟩, ?_⟩
      rw [he]
      exact (by repeat (first | exact Ks.le_nil _ | refine Ks.le_cons rfl ?_))
    ·have he := he2 (fun z => absurd z.1 (by assumption))
     refine ⟨⟨r.us, r.ts.take i⟩, ⟨S.pick, fun q => by rw [he] at q; cases q⟩, ?_⟩
     rw [he]
     exact (by repeat (first | exact Ks.le_nil _ | refine Ks.le_cons rfl ?_))
   ·clear S
    rintro r' h ⟨S, hr'⟩
    skip
    all_goals (repeat' (first | refine K_seq ?_ | refine k_cond rfl ?_ | refine K_skip ?_ | (refine K_region (id := 15) ?_; refine mv ?_; (first | (refine cS ?_ ?_ <;> intro hc)) <;> (refine KO_nil ?_)) | (refine K_draw (id := 16) ?_; refine vl ?_; refine lB S rfl rfl ?_; refine lnB S ?_; refine mv ?_; refine ad ?_; refine mv ?_; refine mv ?_; refine mv ?_; refine mv ?_; refine KO_nil ?_) | (refine K_region (id := 17) ?_; refine ad ?_; refine mv ?_; refine KO_nil ?_)))
    ·refine K_ret ⟨_, rfl, ?_⟩
     exact .inr ⟨_, _, rfl, ⟨hc, .inr ⟨g2, i, by omega, k2, rfl, by rw [hgl]⟩⟩, S.drop⟩
    ·have hz : tE0 r i = 0 := Classical.not_not.1 hc
     obtain rfl := hr' hz
     refine ⟨i + 1, ?_, ?_, (by repeat (first | exact Ks.le_nil _ | refine Ks.le_cons rfl ?_))⟩
     ·show r.ts.length - (i + 1) < r.ts.length - i; omega
     ·exact ⟨S, by omega, nxtD k2 hz⟩
  ·refine K_ret ⟨_, rfl, ?_⟩
   obtain rfl : i = r.ts.length := by omega
   rw [List.take_length] at S
   exact .inl ⟨p, rfl, ⟨g2, k2⟩, S.pick⟩
end Go.Proofs.Xx
