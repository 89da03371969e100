/-
  The reference's check of a problem and of a partial plan.
-/
import Derived.Test.YtjgpiabklllldaaGreatDoorM13
import Derived.Test.YtjgpiabklllldaaGreatDoorM10
import Derived.Test.YtjgpiabklllldaaGreatDoorM12
import Derived.Test.YtjgpiabklllldaaGreatDoorM6
import Derived.Test.YtjgpiabklllldaaGreatDoorM4
import Derived.Test.YtjgpiabklllldaaGreatDoorM7
import Derived.Test.YtjgpiabklllldaaGreatDoorRows
import Derived.Lib.LaidTab
import Derived.Stop.LaidErr
import Derived.Shelf.Vars
namespace Go.Proofs.Xx
open Go Go.Proofs
set_option linter.unusedSimpArgs false
set_option linter.unusedVariables false
set_option linter.unusedSectionVars false
set_option maxRecDepth 100000
set_option maxHeartbeats 4000000
variable [Flag]
structure PbM (v : PbV) (p : Pb) : Prop where
 cg : CapOk v.vg.val
 few : p.us.length ≤ 200 ∧ p.ts.length ≤ 600
 ru : ∀ r ∈ p.ru, 0 ≤ r.k ∧ r.k ≤ 255
theorem rbasis_ok {h0 : AH} (w : WfH h0) (v : PbV) (p : Pb) (H : PbOk h0 v p) (M : PbM v p) : Fn Tryz.prog Xh 83 [v.val] h0 (fun u h' => ∃ i e, u = .tuple #[.int .i64 i, .int .i64 e] ∧ BasP p i e ∧ Hs h0 h' []) := by
 have S := Hs.start w
 have hr := H.rol.rg
 have hl := H.rol.len
 have hlg := H.rol.lg
 have hcr := H.cl
 have hcl := H.lc
 have hl' : v.gs.length = p.us.length := hl
 have hlg' : p.us.length ≤ 9223372036854775807 := hlg
 have htab := H.tab.rd
 have htl := H.tab.len
 unfold PbV.val
 refine Fn_K (by first | rfl) Tryz.func83 rfl rfl ?_
 all_goals (repeat' (first | refine K_seq ?_ | (refine K_region (id := 0) ?_; (refine bx S ?_; clear S; intro b h S); refine mv ?_; refine mv ?_; refine KO_nil ?_)))
 obtain ⟨bp, hnm⟩ : ∃ x, x = b := ⟨_, rfl⟩; subst hnm
 all_goals (repeat' (first | (refine K_region (id := 1) ?_; refine vl ?_; refine lB S rfl rfl ?_)))
 (refine KO_fn rfl rfl rfl rfl rfl ((refCheckAll_ok S.wf v.vt.val p.tabs (H.tab.ext w S.ext)).mono ?_); rintro _ h ⟨i, e, rfl, hk, x⟩) <;> (replace S := S.join0 x; clear x; refine mv ?_; refine vl ?_; refine vl ?_; refine mv ?_; refine mv ?_; refine KO_nil ?_)
 all_goals (repeat' (first | refine K_seq ?_ | refine k_cond rfl ?_ | refine K_skip ?_ | (refine K_region (id := 2) ?_; refine mv ?_; (first | (refine cS ?_ ?_ <;> intro hc)) <;> (refine KO_nil ?_)) | (refine K_region (id := 3) ?_; refine mv ?_; refine mv ?_; refine mv ?_; refine mv ?_; refine KO_nil ?_)))
 ·refine K_ret ⟨_, rfl, ?_⟩
  exact ⟨i, e, rfl, .inl ⟨by assumption, hk⟩, S.drop⟩
 have hv : ValidL p.tabs := hk.valid.1 (by omega)
 skip
 all_goals (repeat' (first | (refine K_region (id := 4) ?_; refine vl ?_; refine lB S rfl rfl ?_; refine vl ?_; refine lB S rfl rfl ?_; refine vl ?_)))
 (refine KO_fn rfl rfl rfl rfl rfl ((rcheck_ok S.wf v.rl p.rl (H.rol.ext w S.ext) M.cg M.few).mono ?_); rintro _ h ⟨⟨rfl, hq⟩ | ⟨i2, e2, rfl, hq⟩, x⟩) <;> (replace S := S.join0 x; clear x; refine mv ?_; refine vl ?_; refine vl ?_; refine mv ?_; refine mv ?_; refine KO_nil ?_)
 rotate_left
 ·all_goals (repeat' (first | refine K_seq ?_ | refine k_cond rfl ?_ | refine K_skip ?_ | (refine K_region (id := 5) ?_; refine mv ?_; (first | (refine cS ?_ ?_ <;> intro hc)) <;> (refine KO_nil ?_)) | (refine K_region (id := 6) ?_; refine mv ?_; refine mv ?_; refine mv ?_; refine mv ?_; refine KO_nil ?_)))
  ·refine K_ret ⟨_, rfl, ?_⟩
   exact ⟨i2, e2, rfl, .inr (.inl ⟨hv, hq⟩), S.drop⟩
  ·exact absurd (by omega) hq.1
 have ho : RO p.rl := VRl_iff.1 hq
 all_goals (repeat' (first | refine K_seq ?_ | refine k_cond rfl ?_ | refine K_skip ?_ | (refine K_region (id := 5) ?_; refine mv ?_; (refine cF ?_) <;> (refine KO_nil ?_))))
 skip
 (repeat (refine K_seq ?_)); first | refine K_join (σ := Unit) (fun _ h' => Hs h0 h' [.blk bp v.cs 28] ∧ (p.cl.length = 0 ∨ p.cl.length = p.us.length)) (fun _ => [(1, .pointer (some ⟨bp, 0, none⟩))]) ?_ ?_
 ·have hl2 : v.rl.gs.length = p.us.length := hl
  all_goals (repeat' (first | refine K_seq ?_ | refine k_cond rfl ?_ | refine K_skip ?_ | (refine K_region (id := 7) ?_; refine vl ?_; refine lB S rfl rfl ?_; refine lnB S ?_; (first | (refine cS ?_ ?_ <;> intro hc)) <;> (refine mv ?_; (first | refine off ?_ | (refine vl ?_)); (first | refine off ?_ | (refine lB S rfl rfl ?_)); (first | refine off ?_ | (refine lnB S ?_)); (first | refine off ?_ | (refine vl ?_)); (first | refine off ?_ | (refine lB S rfl rfl ?_)); (first | refine off ?_ | (refine lnB S ?_)); (first | refine off ?_ | (first | (refine cS ?_ ?_ <;> intro hc))) <;> (refine vl ?_; refine KO_nil ?_))) | (refine K_region (id := 8) ?_; refine mv ?_; refine mv ?_; refine KO_nil ?_)))
  ·refine K_ret ⟨_, rfl, ?_⟩
   exact ⟨0, 44, rfl, .inr (.inr ⟨hv, ho, .inl ⟨fun q => by have := q.1; omega, rfl, rfl⟩⟩), S.drop⟩
  ·exact ⟨(), ⟨S, by omega⟩, ((by repeat (first | exact Ks.le_nil _ | refine Ks.le_cons rfl ?_)))⟩
  ·exact ⟨(), ⟨S, by omega⟩, ((by repeat (first | exact Ks.le_nil _ | refine Ks.le_cons rfl ?_)))⟩
 clear S
 rintro _ h ⟨S, h1⟩
 skip
 all_goals (repeat' (first | refine K_seq ?_ | refine k_block ?_ | (refine K_region (id := 9) ?_; refine mv ?_; refine KO_nil ?_)))
 refine k_loop (σ := Nat) (fun i h' => Hs h0 h' [.blk bp v.cs 28] ∧ i ≤ p.cl.length ∧ ∀ j, j < i → 0 ≤ p.cl.getD j default ∧ p.cl.getD j default < 64) (fun i => p.cl.length - i) (fun i => [(1, .pointer (some ⟨bp, 0, none⟩)), (7, .int .i64 i)]) 0 (by repeat (first | exact Ks.le_nil _ | refine Ks.le_cons rfl ?_)) ?_ ?_
 ·exact ⟨S, Nat.zero_le _, fun j hj => absurd hj (Nat.not_lt_zero _)⟩
 clear S
 rintro i h ⟨S, k1, k2⟩
 all_goals (repeat' (first | refine K_seq ?_ | refine k_cond rfl ?_ | refine K_skip ?_ | refine K_exit ?_ | refine k_block ?_ | (refine K_region (id := 10) ?_; refine mv ?_; refine vl ?_; refine lB S rfl rfl ?_; refine lnB S ?_; (first | (refine cS ?_ ?_ <;> intro hc)) <;> (refine KO_nil ?_)) | (refine K_region (id := 12) ?_; refine vl ?_; refine lB S rfl rfl ?_; refine mv ?_; refine ixB S ?_; refine lEB S ?_; (first | (refine cS ?_ ?_ <;> intro hc)) <;> (refine mv ?_; (first | refine off ?_ | (refine vl ?_)); (first | refine off ?_ | (refine lB S rfl rfl ?_)); (first | refine off ?_ | refine mv ?_); (first | refine off ?_ | (refine ixB S ?_)); (first | refine off ?_ | (refine lEB S ?_)); (first | refine off ?_ | (first | (refine cS ?_ ?_ <;> intro hc))) <;> (refine vl ?_; refine KO_nil ?_))) | (refine K_region (id := 13) ?_; refine mv ?_; refine mv ?_; refine KO_nil ?_)))
 ·refine K_ret ⟨_, rfl, ?_⟩
  exact ⟨0, 44, rfl, .inr (.inr ⟨hv, ho, .inl ⟨fun q => by have := (q.2 _ (mem_getD (show i < p.cl.length by omega))).1; simp only [Int.toNat_natCast] at *; omega, rfl, rfl⟩⟩), S.drop⟩
 ·refine K_ret ⟨_, rfl, ?_⟩
  exact ⟨0, 44, rfl, .inr (.inr ⟨hv, ho, .inl ⟨fun q => by have := (q.2 _ (mem_getD (show i < p.cl.length by omega))).2; simp only [Int.toNat_natCast] at *; omega, rfl, rfl⟩⟩), S.drop⟩
 ·(try simp only [Int.toNat_natCast] at *)
  all_goals (repeat' (first | (refine K_region (id := 11) ?_; refine mv ?_; refine ad ?_; refine mv ?_; refine KO_nil ?_)))
  refine ⟨i + 1, ?_, ?_, (by repeat (first | exact Ks.le_nil _ | refine Ks.le_cons rfl ?_))⟩
  ·show p.cl.length - (i + 1) < p.cl.length - i; omega
  ·exact ⟨S, by omega, nxtD k2 ⟨by omega, by omega⟩⟩
 have hco : (p.cl.length = 0 ∨ p.cl.length = p.us.length) ∧ ∀ c ∈ p.cl, 0 ≤ c ∧ c < 64 := ⟨h1, fun c hc2 => by
  obtain ⟨j, hj, rfl⟩ := mem_iff_getD.1 hc2
  exact k2 j (by omega)⟩
 have hs := sumT_le p.tabs p.tabs.length
 skip
 have hl2 : v.rl.gs.length = p.us.length := hl
 (repeat (refine K_seq ?_)); refine K_drawX (id := 14) [(1, (0, 1))] [some (bp)] ?_; refine KX_cons ?_; (first | (refine vl ?_ <;> refine KO_nil ⟨⟨by (first | exact True.intro), rfl⟩, ?_⟩)); refine KX_cons ?_; (first | (refine lB S rfl rfl ?_ <;> refine KO_nil ⟨⟨by (first | exact Or.inr rfl), rfl⟩, ?_⟩)); refine KX_cons ?_; (first | (refine lnB S ?_ <;> refine KO_nil ⟨⟨by (first | exact True.intro), rfl⟩, ?_⟩)); refine KX_cons ?_; (first | (refine vl ?_ <;> refine KO_nil ⟨⟨by (first | exact True.intro), rfl⟩, ?_⟩)); refine KX_cons ?_; (first | (refine lB S rfl rfl ?_ <;> refine KO_nil ⟨⟨by (first | exact True.intro), rfl⟩, ?_⟩))
 ((refine KX_cons ?_; first | refine KO_fn rfl rfl rfl rfl rfl ((rCount_ok S.wf v.vt.val p.tabs (htab.ext w S.ext) htl).mono ?_)); rintro _ h ⟨rfl, x⟩) <;> ((refine KO_nil ⟨⟨True.intro, ?_⟩, ?_⟩; (focus ((show keepsX _ _ _ _ _; simp only [keepsX]; (repeat' (first | exact True.intro | refine And.intro ?_ ?_)); all_goals (intro hw; first | exact x.ext.old _ S.bB))))); replace S := S.join0 x; clear x; refine KX_cons ?_; (first | ((refine cS ?_ ?_ <;> intro hc) <;> refine KO_nil ⟨⟨by (first | exact True.intro), rfl⟩, ?_⟩)) <;> (refine KX_nil ?_))
 all_goals (all_goals (repeat' (first | refine K_seq ?_ | refine k_cond rfl ?_ | refine K_skip ?_ | (refine K_region (id := 15) ?_; refine mv ?_; refine mv ?_; refine KO_nil ?_))))
 ·refine K_ret ⟨_, rfl, ?_⟩
  exact ⟨0, 45, rfl, .inr (.inr ⟨hv, ho, .inr ⟨hco, .inl ⟨by omega, rfl, rfl⟩⟩⟩), S.drop⟩
 ·all_goals (repeat' (first | (refine K_region (id := 16) ?_; refine mv ?_; refine mv ?_; refine KO_nil ?_)))
  refine K_ret ⟨_, rfl, ?_⟩
  exact ⟨0, 0, rfl, .inr (.inr ⟨hv, ho, .inr ⟨hco, .inr ⟨by omega, rfl, rfl⟩⟩⟩), S.drop⟩
theorem rCheck4_ok {h0 : AH} (w : WfH h0) (v : PbV) (p : Pb) (H : PbOk h0 v p) (M : PbM v p) : Fn Tryz.prog Xh 33 [v.val] h0 (fun u h' => ∃ i e, u = .tuple #[.int .i64 i, .int .i64 e] ∧ CkP p i e ∧ Hs h0 h' []) := by
 have S := Hs.start w
 have hr := H.ru
 have hlr := H.lr
 unfold PbV.val
 refine Fn_K (by first | rfl) Tryz.func33 rfl rfl ?_
 all_goals (repeat' (first | refine K_seq ?_ | (refine K_region (id := 0) ?_; (refine bx S ?_; clear S; intro b h S); refine mv ?_; refine mv ?_; refine KO_nil ?_) | (refine K_region (id := 1) ?_; refine lB S rfl rfl ?_)))
 obtain ⟨bp, hnm⟩ : ∃ x, x = b := ⟨_, rfl⟩; subst hnm
 (refine KO_fn rfl rfl rfl rfl rfl ((rbasis_ok S.wf v p (H.ext w S.ext) M).mono ?_); rintro _ h ⟨i, e, rfl, hk, x⟩) <;> (replace S := S.join0 x; clear x; refine mv ?_; refine vl ?_; refine vl ?_; refine mv ?_; refine mv ?_; refine KO_nil ?_)
 all_goals (repeat' (first | refine K_seq ?_ | refine k_cond rfl ?_ | refine K_skip ?_ | (refine K_region (id := 2) ?_; refine mv ?_; (first | (refine cS ?_ ?_ <;> intro hc)) <;> (refine KO_nil ?_)) | (refine K_region (id := 3) ?_; refine mv ?_; refine mv ?_; refine mv ?_; refine mv ?_; refine KO_nil ?_)))
 ·refine K_ret ⟨_, rfl, ?_⟩
  exact ⟨i, e, rfl, .inl ⟨by assumption, hk⟩, S.drop⟩
 have he : e = 0 := by omega
 subst he
 obtain ⟨hb, rfl⟩ := hk.bo
 skip
 all_goals (repeat' (first | refine k_block ?_ | (refine K_region (id := 4) ?_; refine mv ?_; refine KO_nil ?_)))
 refine k_loop (σ := Nat) (fun i h' => Hs h0 h' [.blk bp v.cs 28] ∧ i ≤ p.ru.length ∧ i ≤ 64 ∧ ∀ j, j < i → ruE p (p.ru.getD j default) = 0) (fun i => p.ru.length - i) (fun i => [(1, .pointer (some ⟨bp, 0, none⟩)), (6, .int .i64 i)]) 0 (by repeat (first | exact Ks.le_nil _ | refine Ks.le_cons rfl ?_)) ?_ ?_
 ·exact ⟨S, Nat.zero_le _, Nat.zero_le _, fun j hj => absurd hj (Nat.not_lt_zero _)⟩
 clear S
 rintro i h ⟨S, k1, k3, k2⟩
 all_goals (repeat' (first | refine K_seq ?_ | refine k_cond rfl ?_ | refine K_skip ?_ | refine K_exit ?_ | refine k_block ?_ | (refine K_region (id := 5) ?_; refine mv ?_; refine vl ?_; refine lB S rfl rfl ?_; refine lnB S ?_; (first | (refine cS ?_ ?_ <;> intro hc)) <;> (refine KO_nil ?_))))
 ·have hi : i < p.ru.length := by omega
  all_goals (repeat' (first | (refine K_draw (id := 7) ?_; refine lB S rfl rfl ?_; refine vl ?_; refine lB S rfl rfl ?_; refine mv ?_; refine ixB S ?_; refine lEB S ?_)))
  (try simp only [Int.toNat_natCast] at *)
  obtain ⟨r, hre⟩ : ∃ r, p.ru.getD i default = r := ⟨_, rfl⟩
  have hrk := M.ru r (by rw [← hre]; exact mem_getD hi)
  rw [hre]
  (refine KO_fn rfl rfl rfl rfl rfl ((rcheckR_ok S.wf v p (H.ext w S.ext) r hrk).mono ?_); rintro _ h ⟨rfl, x⟩) <;> (replace S := S.join0 x; clear x; refine mv ?_; refine KO_nil ?_)
  all_goals (repeat' (first | refine K_seq ?_ | refine k_cond rfl ?_ | refine K_skip ?_ | (refine K_region (id := 8) ?_; refine mv ?_; (first | (refine cS ?_ ?_ <;> intro hc)) <;> (refine KO_nil ?_)) | (refine K_region (id := 9) ?_; refine mv ?_; refine mv ?_; refine mv ?_; refine mv ?_; refine KO_nil ?_) | (refine K_region (id := 10) ?_; refine mv ?_; (first | (refine cS ?_ ?_ <;> intro hc)) <;> (refine KO_nil ?_)) | (refine K_region (id := 11) ?_; refine mv ?_; refine mv ?_; refine mv ?_; refine KO_nil ?_)))
  ·refine K_ret ⟨_, rfl, ?_⟩
   exact ⟨i, _, rfl, .inr ⟨hb, .inl ⟨i, hi, rfl, k3, k2, .inl ⟨by rw [hre]; assumption, by rw [hre]⟩⟩⟩, S.drop⟩
  ·refine K_ret ⟨_, rfl, ?_⟩
   exact ⟨i, 7, rfl, .inr ⟨hb, .inl ⟨i, hi, rfl, k3, k2, .inr ⟨by rw [hre]; omega, by omega, rfl⟩⟩⟩, S.drop⟩
  ·all_goals (repeat' (first | (refine K_region (id := 6) ?_; refine mv ?_; refine ad ?_; refine mv ?_; refine KO_nil ?_)))
   refine ⟨i + 1, ?_, ?_, (by repeat (first | exact Ks.le_nil _ | refine Ks.le_cons rfl ?_))⟩
   ·show p.ru.length - (i + 1) < p.ru.length - i; omega
   ·exact ⟨S, by omega, by omega, nxtD k2 (by rw [hre]; omega)⟩
 ·all_goals (repeat' (first | (refine K_region (id := 12) ?_; refine mv ?_; refine mv ?_; refine KO_nil ?_)))
  refine K_ret ⟨_, rfl, ?_⟩
  exact ⟨0, 0, rfl, .inr ⟨hb, .inr ⟨by omega, fun j hj => k2 j (by omega), rfl, rfl⟩⟩, S.drop⟩
theorem rCheck5_ok {h0 : AH} (w : WfH h0) (v : PbV) (p : Pb) (H : PbOk h0 v p) (M : PbM v p) (vq : Value) (q : List Int) (rq : RdL h0 vq 1 eI q) (hq : q.length ≤ 9223372036854775807) (wh : Bool) :
 Fn Tryz.prog Xh 55 [v.val, vq, .bool wh] h0 (fun u h' => ∃ i e, u = .tuple #[.int .i64 i, .int .i64 e] ∧ PaC p q wh i e ∧ Hs h0 h' []) := by
 have S := Hs.start w
 have hrg := H.rol.rg
 have hgl : v.gs.length = p.us.length := H.rol.len
 have hgl2 : v.rl.gs.length = p.us.length := hgl
 have hs := sumT_le p.tabs p.tabs.length
 have htl := H.tab.len
 have htab := H.tab.rd
 unfold PbV.val
 refine Fn_K (by first | rfl) Tryz.func55 rfl rfl ?_
 all_goals (repeat' (first | refine K_seq ?_ | (refine K_region (id := 0) ?_; (refine bx S ?_; clear S; intro b h S); refine mv ?_; refine mv ?_; refine KO_nil ?_) | (refine K_region (id := 1) ?_; refine lB S rfl rfl ?_)))
 obtain ⟨b3, hnm⟩ : ∃ x, x = b := ⟨_, rfl⟩; subst hnm
 (refine KO_fn rfl rfl rfl rfl rfl ((rCheck4_ok S.wf v p (H.ext w S.ext) M).mono ?_); rintro _ h ⟨i, e, rfl, hk, x⟩) <;> (replace S := S.join0 x; clear x; refine mv ?_; refine vl ?_; refine vl ?_; refine mv ?_; refine mv ?_; refine KO_nil ?_)
 have hpo := hk.po
 all_goals (repeat' (first | refine K_seq ?_ | refine k_cond rfl ?_ | refine K_skip ?_ | (refine K_region (id := 2) ?_; refine mv ?_; (first | (refine cS ?_ ?_ <;> intro hc)) <;> (refine KO_nil ?_)) | (refine K_region (id := 3) ?_; refine mv ?_; refine mv ?_; refine mv ?_; refine KO_nil ?_)))
 ·refine K_ret ⟨_, rfl, ?_⟩
  exact ⟨0, e, rfl, .inl ⟨fun q => (by assumption : ¬ e = 0) (hpo.2 q), rfl, by assumption, i, hk⟩, S.drop⟩
 have hp : PO p := hpo.1 (by omega)
 obtain ⟨N, hN⟩ : ∃ N : Nat, sumT p.tabs p.tabs.length = N := ⟨(sumT p.tabs p.tabs.length).toNat, by omega⟩
 have mk : ∀ {i e : Int}, PaE N q p.us.length wh i e → PaC p q wh i e := fun h => .inr ⟨hp, by rw [hN]; exact h⟩
 skip
 all_goals (repeat' (first | refine K_seq ?_ | refine k_cond rfl ?_ | refine K_skip ?_ | (refine K_region (id := 4) ?_; refine mv ?_; refine lnB S ?_; refine vl ?_; refine lB S rfl rfl ?_; refine lnB S ?_; (first | (refine cS ?_ ?_ <;> intro hc)) <;> (refine KO_nil ?_)) | (refine K_region (id := 5) ?_; refine mv ?_; refine mv ?_; refine KO_nil ?_)))
 ·refine K_ret ⟨_, rfl, ?_⟩
  exact ⟨0, 53, rfl, mk (.inl ⟨by omega, rfl, rfl⟩), S.drop⟩
 have hql : q.length = p.us.length := by omega
 skip
 all_goals (repeat' (first | (refine K_region (id := 6) ?_; refine vl ?_; refine lB S rfl rfl ?_)))
 (refine KO_fn rfl rfl rfl rfl rfl ((rCount_ok S.wf v.vt.val p.tabs (htab.ext w S.ext) htl).mono ?_); rintro _ h ⟨rfl, x⟩) <;> (replace S := S.join0 x; clear x; refine mv ?_; refine KO_nil ?_)
 rw [hN]
 all_goals (repeat' (first | refine K_seq ?_ | refine k_block ?_ | (refine K_region (id := 7) ?_; refine mv ?_; refine KO_nil ?_)))
 refine k_loop (σ := Nat) (fun k h' => Hs h0 h' [.blk b3 v.cs 28] ∧ k ≤ p.us.length ∧ PaI N q k ∧ (wh = true → ∀ j, j < k → q.getD j default ≠ -1)) (fun k => p.us.length - k) (fun k => [(1, vq), (2, .bool wh), (10, .int .i64 N), (11, .int .i64 k)]) 0 (by repeat (first | exact Ks.le_nil _ | refine Ks.le_cons rfl ?_)) ?_ ?_
 ·exact ⟨S, Nat.zero_le _, ⟨fun i hi => absurd hi (Nat.not_lt_zero _), fun i j _ hj => absurd hj (Nat.not_lt_zero _)⟩, fun _ j hj => absurd hj (Nat.not_lt_zero _)⟩
 clear S
 rintro k h ⟨S, g1, g2, g3⟩
 all_goals (repeat' (first | refine K_seq ?_ | refine k_cond rfl ?_ | refine K_skip ?_ | refine K_exit ?_ | refine k_block ?_ | (refine K_region (id := 8) ?_; refine mv ?_; refine mv ?_; refine lnB S ?_; (first | (refine cS ?_ ?_ <;> intro hc)) <;> (refine KO_nil ?_))))
 ·have hk : k < p.us.length := by omega
  have hx : q.getD k default = q.getD (k : Int).toNat default := rfl
  have step : -1 ≤ q.getD (k : Int).toNat default ∧ q.getD (k : Int).toNat default < N → (0 ≤ q.getD (k : Int).toNat default → ∀ j, j < k → q.getD j default ≠ q.getD (k : Int).toNat default) → PaI N q (k + 1) := fun h1 h2 => by
   refine ⟨nxtD g2.1 h1, fun i j hij hj h0 => ?_⟩
   rcases Nat.lt_or_ge j k with r | r
   ·exact g2.2 i j hij r h0
   ·obtain rfl : j = k := by omega
    intro e
    exact h2 (by omega) i hij e
  have stepW : ¬ (wh = true ∧ q.getD (k : Int).toNat default = -1) → (wh = true → ∀ j, j < k + 1 → q.getD j default ≠ -1) := fun h1 h2 => nxtD (g3 h2) (fun e => h1 ⟨h2, e⟩)
  all_goals (repeat' (first | refine K_seq ?_ | refine k_cond rfl ?_ | refine K_skip ?_ | (refine K_region (id := 10) ?_; refine mv ?_; refine mv ?_; refine ixB S ?_; refine lEB S ?_; (first | (refine cS ?_ ?_ <;> intro hc)) <;> (refine KO_nil ?_))))
  ·cases hwh : wh
   ·subst hwh
    all_goals (repeat' (first | refine k_cond rfl ?_ | refine K_skip ?_ | refine K_exit ?_ | (refine K_region (id := 9) ?_; refine mv ?_; refine ad ?_; refine mv ?_; refine KO_nil ?_) | (refine K_region (id := 11) ?_; refine mv ?_; refine KO_nil ?_)))
    refine ⟨k + 1, ?_, ?_, (by repeat (first | exact Ks.le_nil _ | refine Ks.le_cons rfl ?_))⟩
    ·show p.us.length - (k + 1) < p.us.length - k; omega
    ·exact ⟨S, by omega, step ⟨by omega, by omega⟩ (fun h => by omega), stepW (fun h => by cases h.1)⟩
   ·subst hwh
    all_goals (repeat' (first | refine K_seq ?_ | refine k_cond rfl ?_ | (refine K_region (id := 11) ?_; refine mv ?_; refine KO_nil ?_) | (refine K_region (id := 12) ?_; refine mv ?_; refine mv ?_; refine mv ?_; refine KO_nil ?_)))
    refine K_ret ⟨_, rfl, ?_⟩
    exact ⟨k, 52, rfl, mk (.inr ⟨hql, .inl ⟨k, hk, rfl, g2, g3, .inl ⟨rfl, by rw [hx]; assumption, rfl⟩⟩⟩), S.drop⟩
  have hne : ¬ q.getD (k : Int).toNat default = -1 := by assumption
  skip
  all_goals (repeat' (first | refine K_seq ?_ | refine k_cond rfl ?_ | refine K_skip ?_ | (refine K_region (id := 13) ?_; refine mv ?_; refine mv ?_; refine ixB S ?_; refine lEB S ?_; (first | (refine cS ?_ ?_ <;> intro hc)) <;> (refine mv ?_; (first | refine off ?_ | refine mv ?_); (first | refine off ?_ | refine mv ?_); (first | refine off ?_ | (refine ixB S ?_)); (first | refine off ?_ | (refine lEB S ?_)); (first | refine off ?_ | refine mv ?_); (first | refine off ?_ | (first | (refine cS ?_ ?_ <;> intro hc))) <;> (refine vl ?_; refine KO_nil ?_))) | (refine K_region (id := 14) ?_; refine mv ?_; refine mv ?_; refine mv ?_; refine KO_nil ?_)))
  ·refine K_ret ⟨_, rfl, ?_⟩
   exact ⟨k, 50, rfl, mk (.inr ⟨hql, .inl ⟨k, hk, rfl, g2, g3, .inr (.inl ⟨by rw [hx]; omega, rfl⟩)⟩⟩), S.drop⟩
  ·refine K_ret ⟨_, rfl, ?_⟩
   exact ⟨k, 50, rfl, mk (.inr ⟨hql, .inl ⟨k, hk, rfl, g2, g3, .inr (.inl ⟨by rw [hx]; omega, rfl⟩)⟩⟩), S.drop⟩
  have hrg2 : 0 ≤ q.getD (k : Int).toNat default ∧ q.getD (k : Int).toNat default < N := by omega
  all_goals (repeat' (first | refine k_block ?_ | (refine K_region (id := 15) ?_; refine mv ?_; refine KO_nil ?_)))
  refine k_loop (σ := Nat) (fun m h' => Hs h0 h' [.blk b3 v.cs 28] ∧ m ≤ k ∧ ∀ j, j < m → q.getD j default ≠ q.getD (k : Int).toNat default) (fun m => k - m) (fun m => [(1, vq), (2, .bool wh), (10, .int .i64 N), (11, .int .i64 k), (12, .int .i64 m)]) 0 (by repeat (first | exact Ks.le_nil _ | refine Ks.le_cons rfl ?_)) ?_ ?_
  ·exact ⟨S, Nat.zero_le _, fun j hj => absurd hj (Nat.not_lt_zero _)⟩
  clear S
  rintro m h ⟨S, f1, f2⟩
  all_goals (repeat' (first | refine K_seq ?_ | refine k_cond rfl ?_ | refine K_skip ?_ | refine K_exit ?_ | refine k_block ?_ | (refine K_region (id := 16) ?_; refine mv ?_; refine mv ?_; (first | (refine cS ?_ ?_ <;> intro hc)) <;> (refine KO_nil ?_))))
  ·have hm : m < k := by omega
   all_goals (repeat' (first | refine K_seq ?_ | refine k_cond rfl ?_ | refine K_skip ?_ | (refine K_draw (id := 18) ?_; refine mv ?_; refine mv ?_; refine ixB S ?_; refine lEB S ?_; refine mv ?_; refine mv ?_; refine ixB S ?_; refine lEB S ?_; (first | (refine cS ?_ ?_ <;> intro hc)) <;> (refine KO_nil ?_)) | (refine K_region (id := 19) ?_; refine mv ?_; refine mv ?_; refine mv ?_; refine KO_nil ?_)))
   ·refine K_ret ⟨_, rfl, ?_⟩
    exact ⟨k, 51, rfl, mk (.inr ⟨hql, .inl ⟨k, hk, rfl, g2, g3, .inr (.inr ⟨hrg2.1, hrg2.2, ⟨m, hm, by assumption⟩, rfl⟩)⟩⟩), S.drop⟩
   ·all_goals (repeat' (first | (refine K_region (id := 17) ?_; refine mv ?_; refine ad ?_; refine mv ?_; refine KO_nil ?_)))
    refine ⟨m + 1, ?_, ?_, (by repeat (first | exact Ks.le_nil _ | refine Ks.le_cons rfl ?_))⟩
    ·show k - (m + 1) < k - m; omega
    ·exact ⟨S, by omega, nxtD f2 (by assumption)⟩
  ·obtain rfl : m = k := by omega
   all_goals (repeat' (first | (refine K_region (id := 9) ?_; refine mv ?_; refine ad ?_; refine mv ?_; refine KO_nil ?_)))
   refine ⟨m + 1, ?_, ?_, (by repeat (first | exact Ks.le_nil _ | refine Ks.le_cons rfl ?_))⟩
   ·show p.us.length - (m + 1) < p.us.length - m; omega
   ·exact ⟨S, by omega, step ⟨by omega, by omega⟩ (fun _ => f2), stepW (fun h => hne h.2)⟩
 ·obtain rfl : k = p.us.length := by omega
  all_goals (repeat' (first | (refine K_region (id := 20) ?_; refine mv ?_; refine mv ?_; refine KO_nil ?_)))
  refine K_ret ⟨_, rfl, ?_⟩
  exact ⟨0, 0, rfl, mk (.inr ⟨hql, .inr ⟨g2, g3, rfl, rfl⟩⟩), S.drop⟩
end Go.Proofs.Xx
namespace Go.Proofs.Xx
open Go Go.Proofs
set_option linter.unusedSimpArgs false
set_option linter.unusedVariables false
set_option linter.unusedSectionVars false
set_option maxRecDepth 100000
set_option maxHeartbeats 4000000
variable [Flag]
structure PbFit (h : AH) (v : PbV) (p : Pb) : Prop where
 ok : PbOk h v p
 op : ∀ i, i < p.tabs.length → (p.tabs.getD i default).opn.length * 8 ≤ 140737488351232
 tg : ∀ i, i < v.gs.length → (v.gs.getD i default).tg.length ≤ 8796093021952
 few : p.tabs.length ≤ 1000 ∧ p.us.length ≤ 1000 ∧ p.ts.length ≤ 1000 ∧ p.cl.length ≤ 1000 ∧ p.ru.length ≤ 1000
abbrev pbL (v : PbV) (p : Pb) : List Rs := [.sl v.vt.val 95 7 eT p.tabs, ownR slOp p.tabs, .sl v.vg.val 98 9 eG v.gs, tgO v.gs, .sl v.vi.val 137 3 eTi p.ts, .sl v.vc.val 3 1 eI p.cl, .sl v.vr.val 125 6 eRu p.ru]
theorem cpP_ok {h0 : AH} (w : WfH h0) (v : PbV) (p : Pb) (H : PbFit h0 v p) : Fn Tryz.prog Xh 14 [v.val] h0 (fun u h' => ∃ (v' : PbV) (tabs : List Tab), u = v'.val ∧ tabs.map (·.toC) = p.tabs.map (·.toC) ∧ v'.gs.map (·.toGu) = p.us ∧ Hs h0 h' (pbL v' { p with tabs := tabs })) := by
 have S := Hs.start w
 obtain ⟨f1, f2, f3, f4, f5⟩ := H.few
 have hgl : v.gs.length = p.us.length := by have e := congrArg List.length H.ok.rol.us; simpa using e
 unfold PbV.val
 refine Fn_K (by first | rfl) Tryz.func14 rfl rfl ?_
 all_goals (repeat' (first | refine K_seq ?_ | (refine K_region (id := 0) ?_; (refine bx S ?_; clear S; intro b h S); (refine al S ?_; clear S; intro b h S); refine KO_nil ?_)))
 obtain ⟨b2, hnm⟩ : ∃ x, x = b := ⟨_, rfl⟩; subst hnm
 obtain ⟨b1, hnm⟩ : ∃ x, x = b := ⟨_, rfl⟩; subst hnm
 (repeat (refine K_seq ?_)); refine K_drawX (id := 1) [(4, (0, 1)), (7, (0, 2)), (10, (0, 3)), (13, (0, 4))] [some (b1), some (b1), some (b1), some (b1)] ?_; refine KX_cons ?_; (first | (refine vl ?_ <;> refine KO_nil ⟨⟨by (first | exact True.intro), rfl⟩, ?_⟩)); refine KX_cons ?_; (first | (refine lB S rfl rfl ?_ <;> refine KO_nil ⟨⟨by (first | exact True.intro), rfl⟩, ?_⟩))
 ((refine KX_cons ?_; first | refine KO_fn rfl rfl rfl rfl rfl ((cpTbs_ok S.wf v.vt.val p.tabs (H.ok.tab.rd.ext w S.ext) (fun i hi => ⟨(H.ok.tab.tab i hi).1.ext w S.ext, H.op i hi⟩) (by omega)).mono ?_)); rintro _ h ⟨vt, tabs, rfl, g1, x⟩) <;> ((refine KO_nil ⟨⟨True.intro, ?_⟩, ?_⟩; (focus ((show keepsX _ _ _ _ _; simp only [keepsX]; (repeat' (first | exact True.intro | refine And.intro ?_ ?_)); all_goals (intro hw; first | exact x.ext.old _ S.bB))))); replace S := S.join2 x; clear x; refine KX_cons ?_; (first | (refine vl ?_ <;> refine KO_nil ⟨⟨by (first | exact True.intro), rfl⟩, ?_⟩)); refine KX_cons ?_; (first | (refine lB S rfl rfl ?_ <;> refine KO_nil ⟨⟨by (first | exact Or.inr rfl), rfl⟩, ?_⟩)))
 ((refine KX_cons ?_; first | refine KO_fn rfl rfl rfl rfl rfl ((cpGs_ok S.wf v.vg.val v.gs (H.ok.rol.rg.ext w S.ext) (fun i hi => ⟨(H.ok.rol.tg i hi).1.ext w S.ext, H.tg i hi⟩) (by omega)).mono ?_)); rintro _ h ⟨vg, gs, rfl, g2, x⟩) <;> ((refine KO_nil ⟨⟨True.intro, ?_⟩, ?_⟩; (focus ((show keepsX _ _ _ _ _; simp only [keepsX]; (repeat' (first | exact True.intro | refine And.intro ?_ ?_)); all_goals (intro hw; first | exact absurd hw (by decide +kernel) | exact x.ext.old _ S.bB))))); replace S := S.join2 x; clear x; refine KX_cons ?_; (first | (refine vl ?_ <;> refine KO_nil ⟨⟨by (first | exact True.intro), rfl⟩, ?_⟩)); refine KX_cons ?_; (first | (refine lB S rfl rfl ?_ <;> refine KO_nil ⟨⟨by (first | exact Or.inr rfl), rfl⟩, ?_⟩)))
 ((refine KX_cons ?_; first | refine KO_fn rfl rfl rfl rfl rfl ((cpT_ok S.wf v.vi.val p.ts (H.ok.rol.rt.ext w S.ext) (by omega)).mono ?_)); rintro u h x) <;> ((refine KO_nil ⟨⟨True.intro, ?_⟩, ?_⟩; (focus ((show keepsX _ _ _ _ _; simp only [keepsX]; (repeat' (first | exact True.intro | refine And.intro ?_ ?_)); all_goals (intro hw; first | exact absurd hw (by decide +kernel) | exact x.ext.old _ S.bB))))); replace S := S.join1 x; clear x; obtain ⟨vi, rfl⟩ := S.sV u; refine KX_cons ?_; (first | (refine vl ?_ <;> refine KO_nil ⟨⟨by (first | exact True.intro), rfl⟩, ?_⟩)); refine KX_cons ?_; (first | (refine lB S rfl rfl ?_ <;> refine KO_nil ⟨⟨by (first | exact Or.inr rfl), rfl⟩, ?_⟩)))
 ((refine KX_cons ?_; first | refine KO_fn rfl rfl rfl rfl rfl ((cpI_ok S.wf v.vc.val p.cl (H.ok.cl.ext w S.ext) (by omega)).mono ?_)); rintro u h x) <;> ((refine KO_nil ⟨⟨True.intro, ?_⟩, ?_⟩; (focus ((show keepsX _ _ _ _ _; simp only [keepsX]; (repeat' (first | exact True.intro | refine And.intro ?_ ?_)); all_goals (intro hw; first | exact absurd hw (by decide +kernel) | exact x.ext.old _ S.bB))))); replace S := S.join1 x; clear x; obtain ⟨vc, rfl⟩ := S.sV u; refine KX_cons ?_; (first | (refine vl ?_ <;> refine KO_nil ⟨⟨by (first | exact True.intro), rfl⟩, ?_⟩)); refine KX_cons ?_; (first | (refine lB S rfl rfl ?_ <;> refine KO_nil ⟨⟨by (first | exact Or.inr rfl), rfl⟩, ?_⟩)))
 ((refine KX_cons ?_; first | refine KO_fn rfl rfl rfl rfl rfl ((cpRu_ok S.wf v.vr.val p.ru (H.ok.ru.ext w S.ext) (by omega)).mono ?_)); rintro u h x) <;> ((refine KO_nil ⟨⟨True.intro, ?_⟩, ?_⟩; (focus ((show keepsX _ _ _ _ _; simp only [keepsX]; (repeat' (first | exact True.intro | refine And.intro ?_ ?_)); all_goals (intro hw; first | exact absurd hw (by decide +kernel)))))); replace S := S.join1 x; clear x; obtain ⟨vr, rfl⟩ := S.sV u; refine KX_cons ?_; (first | (refine vl ?_ <;> refine KO_nil ⟨⟨by (first | exact True.intro), rfl⟩, ?_⟩)); refine KX_cons ?_; (first | ((refine sB S rfl rfl ?_; have S0 := S; clear S; intro h S); refine KO_nil ⟨⟨True.intro, ?_⟩, ?_⟩; (focus ((show keepsX _ _ _ _ _; simp only [keepsX]; (repeat' (first | exact True.intro | refine And.intro ?_ ?_)); all_goals (intro hw; first | exact absurd hw (by decide +kernel))))); clear S0)); refine KX_nil ?_)
 all_goals (repeat' (fail))
 refine K_ret ⟨_, ret_cell S rfl (by first | exact .there (.there (.there (.there (.there (.there (.there .here))))))) (by exact rfl) (by exact rfl), ?_⟩
 refine ⟨⟨vt, vg, vi, vc, vr, gs⟩, tabs, rfl, g1, g2.trans H.ok.rol.us, ?_⟩
 exact (show Hs h0 h [.sl vt.val 95 7 eT tabs, ownR slOp tabs, .sl vg.val 98 9 eG gs, tgO gs, .sl vi.val 137 3 eTi p.ts, .sl vc.val 3 1 eI p.cl, .sl vr.val 125 6 eRu p.ru] from S.pick)
end Go.Proofs.Xx
namespace Go.Proofs.Xx
open Go Go.Proofs
set_option linter.unusedSimpArgs false
set_option linter.unusedVariables false
set_option linter.unusedSectionVars false
set_option maxRecDepth 100000
set_option maxHeartbeats 4000000
variable [Flag]
def SamePb (p q : Pb) : Prop := p.tabs.map (·.toC) = q.tabs.map (·.toC) ∧ p.us = q.us ∧ p.ts = q.ts ∧ p.cl = q.cl ∧ p.ru = q.ru
theorem samePb_ok {h0 : AH} (w : WfH h0) (v u : PbV) (p q : Pb) (H : PbOk h0 v p) (K : PbOk h0 u q) : Fn Tryz.prog Xh 64 [v.val, u.val] h0 (fun x h' => BoolIs x (SamePb p q) ∧ Hs h0 h' []) := by
 have S := Hs.start w
 have e1 := H.rol.len
 have e2 := K.rol.len
 have l1 := H.rol.lg
 have l2 := K.rol.lg
 have us1 : v.gs.map (·.toGu) = p.us := H.rol.us
 have us2 : u.gs.map (·.toGu) = q.us := K.rol.us
 have g1 : v.gs.length ≤ 9223372036854775807 := Nat.le_trans (Nat.le_of_eq H.rol.len) H.rol.lg
 have g2 : u.gs.length ≤ 9223372036854775807 := Nat.le_trans (Nat.le_of_eq K.rol.len) K.rol.lg
 have k1 := H.tab.len
 have k2 := K.tab.len
 have m1 := H.lc
 have m2 := K.lc
 have n1 := H.lr
 have n2 := K.lr
 have t1 : p.ts.length ≤ 9223372036854775807 := H.rol.lt
 have t2 : q.ts.length ≤ 9223372036854775807 := K.rol.lt
 unfold PbV.val
 refine Fn_K (by first | rfl) Tryz.func64 rfl rfl ?_
 skip
 all_goals (repeat' (first | refine K_seq ?_ | (refine K_region (id := 0) ?_; (refine bx S ?_; clear S; intro b h S); (refine bx S ?_; clear S; intro b h S); refine mv ?_; refine KO_nil ?_) | (refine K_region (id := 1) ?_; refine vl ?_; refine lB S rfl rfl ?_; refine vl ?_; refine lB S rfl rfl ?_)))
 (refine KO_fn rfl rfl rfl rfl rfl ((sameTbs_ok S.wf v.vt.val u.vt.val p.tabs q.tabs (H.tab.rd.ext w S.ext) (K.tab.rd.ext w S.ext) (fun i hi => ⟨(H.tab.tab i hi).1.ext w S.ext, (H.tab.tab i hi).2.2⟩) (fun i hi => ⟨(K.tab.tab i hi).1.ext w S.ext, (K.tab.tab i hi).2.2⟩) (by omega) (by omega)).mono ?_); rintro _ h ⟨⟨rfl, z1⟩ | ⟨rfl, z1⟩, x⟩) <;> (replace S := S.join0 x; clear x; refine mv ?_; (first | refine off ?_ | (refine vl ?_)); (first | refine off ?_ | (refine lB S rfl rfl ?_)); (first | refine off ?_ | (refine vl ?_)); (first | refine off ?_ | (refine lB S rfl rfl ?_)); (first | (refine off ?_; refine vl ?_; refine mv ?_; refine off ?_; refine off ?_; refine off ?_; refine off ?_; (first | (refine off ?_; refine vl ?_; refine mv ?_; refine off ?_; refine off ?_; refine off ?_; refine off ?_; (first | (refine off ?_; refine vl ?_; refine mv ?_; refine off ?_; refine off ?_; refine off ?_; refine off ?_; (first | (refine off ?_; refine vl ?_; refine mv ?_; refine KO_nil ?_))))))) | skip))
 rotate_left
 ·all_goals (repeat' (fail))
  refine K_ret ⟨_, rfl, ?_⟩
  exact ⟨.inr ⟨rfl, fun e => z1 e.1⟩, S.drop⟩
 (refine KO_fn rfl rfl rfl rfl rfl ((sameGuests_ok S.wf v.vg.val u.vg.val v.gs u.gs (H.rol.rg.ext w S.ext) (K.rol.rg.ext w S.ext) (fun i hi => ⟨(H.rol.tg i hi).1.ext w S.ext, (H.rol.tg i hi).2⟩) (fun i hi => ⟨(K.rol.tg i hi).1.ext w S.ext, (K.rol.tg i hi).2⟩) g1 g2).mono ?_); rintro _ h ⟨⟨rfl, z2⟩ | ⟨rfl, z2⟩, x⟩) <;> (replace S := S.join0 x; clear x; refine vl ?_; refine mv ?_; (first | refine off ?_ | (refine vl ?_)); (first | refine off ?_ | (refine lB S rfl rfl ?_)); (first | refine off ?_ | (refine vl ?_)); (first | refine off ?_ | (refine lB S rfl rfl ?_)); (first | (refine off ?_; refine vl ?_; refine mv ?_; refine off ?_; refine off ?_; refine off ?_; refine off ?_; (first | (refine off ?_; refine vl ?_; refine mv ?_; refine off ?_; refine off ?_; refine off ?_; refine off ?_; (first | (refine off ?_; refine vl ?_; refine mv ?_; refine KO_nil ?_))))) | skip))
 rotate_left
 ·all_goals (repeat' (fail))
  refine K_ret ⟨_, rfl, ?_⟩
  exact ⟨.inr ⟨rfl, fun e => z2 (by rw [us1, us2]; exact e.2.1)⟩, S.drop⟩
 (refine KO_fn rfl rfl rfl rfl rfl ((sameTies_ok S.wf v.vi.val u.vi.val p.ts q.ts (H.rol.rt.ext w S.ext) (K.rol.rt.ext w S.ext) t1 t2).mono ?_); rintro _ h ⟨⟨rfl, z3⟩ | ⟨rfl, z3⟩, x⟩) <;> (replace S := S.join0 x; clear x; refine vl ?_; refine mv ?_; (first | refine off ?_ | (refine vl ?_)); (first | refine off ?_ | (refine lB S rfl rfl ?_)); (first | refine off ?_ | (refine vl ?_)); (first | refine off ?_ | (refine lB S rfl rfl ?_)); (first | (refine off ?_; refine vl ?_; refine mv ?_; refine off ?_; refine off ?_; refine off ?_; refine off ?_; (first | (refine off ?_; refine vl ?_; refine mv ?_; refine KO_nil ?_))) | skip))
 rotate_left
 ·all_goals (repeat' (fail))
  refine K_ret ⟨_, rfl, ?_⟩
  exact ⟨.inr ⟨rfl, fun e => z3 e.2.2.1⟩, S.drop⟩
 (refine KO_fn rfl rfl rfl rfl rfl ((sameInts_ok S.wf v.vc.val u.vc.val p.cl q.cl (H.cl.ext w S.ext) (K.cl.ext w S.ext) (by omega) (by omega)).mono ?_); rintro _ h ⟨⟨rfl, z4⟩ | ⟨rfl, z4⟩, x⟩) <;> (replace S := S.join0 x; clear x; refine vl ?_; refine mv ?_; (first | refine off ?_ | (refine vl ?_)); (first | refine off ?_ | (refine lB S rfl rfl ?_)); (first | refine off ?_ | (refine vl ?_)); (first | refine off ?_ | (refine lB S rfl rfl ?_)); (first | (refine off ?_; refine vl ?_; refine mv ?_; refine KO_nil ?_) | skip))
 rotate_left
 ·all_goals (repeat' (fail))
  refine K_ret ⟨_, rfl, ?_⟩
  exact ⟨.inr ⟨rfl, fun e => z4 e.2.2.2.1⟩, S.drop⟩
 (refine KO_fn rfl rfl rfl rfl rfl ((sameRules_ok S.wf v.vr.val u.vr.val p.ru q.ru (H.ru.ext w S.ext) (K.ru.ext w S.ext) (by omega) (by omega)).mono ?_); rintro _ h ⟨⟨rfl, z5⟩ | ⟨rfl, z5⟩, x⟩) <;> (replace S := S.join0 x; clear x; refine vl ?_; refine mv ?_; refine KO_nil ?_)
 rotate_left
 ·all_goals (repeat' (fail))
  refine K_ret ⟨_, rfl, ?_⟩
  exact ⟨.inr ⟨rfl, fun e => z5 e.2.2.2.2⟩, S.drop⟩
 all_goals (repeat' (fail))
 refine K_ret ⟨_, rfl, ?_⟩
 exact ⟨.inl ⟨rfl, z1, by rw [← us1, ← us2]; exact z2, z3, z4, z5⟩, S.drop⟩
end Go.Proofs.Xx
namespace Go.Proofs.Xx
open Go Go.Proofs
set_option linter.unusedSimpArgs false
set_option linter.unusedVariables false
set_option linter.unusedSectionVars false
set_option maxRecDepth 100000
set_option maxHeartbeats 4000000
variable [Flag]
theorem rLoad_ok {h0 : AH} (w : WfH h0) (pv : PbV) (p : Pb) (H : PbOk h0 pv p) (hP : PO p) (vq : Value) (q : List Int) (rq : RdL h0 vq 1 eI q) (hQ : PartOk p q) (n : Int) :
 Fn Tryz.prog Xh 17 [pv.val, vq, .int .i64 n] h0 (fun u h' => u = .int .i64 (if n < 1 then 0 else ldN (pltV p q) n) ∧ Hs h0 h' []) := by
 have S := Hs.start w
 have hr := H.tab.rd
 have hl := H.tab.len
 have hql := hQ.ql hP
 have hqb := hQ.qb hl
 have hld := ldP_b (p := p) (q := q)
 have hsm := plt_sum (p := p) (q := q)
 unfold PbV.val
 refine Fn_K (by first | rfl) Tryz.func17 rfl rfl ?_
 all_goals (repeat' (first | refine K_seq ?_ | (refine K_region (id := 0) ?_; (refine bx S ?_; clear S; intro b h S); refine mv ?_; refine KO_nil ?_)))
 obtain ⟨b3, hnm⟩ : ∃ x, x = b := ⟨_, rfl⟩; subst hnm
 all_goals (repeat' (first | refine K_seq ?_ | refine k_cond rfl ?_ | refine K_skip ?_ | (refine K_region (id := 1) ?_; refine mv ?_; (first | (refine cS ?_ ?_ <;> intro hc)) <;> (refine KO_nil ?_)) | (refine K_region (id := 2) ?_; refine mv ?_; refine KO_nil ?_)))
 ·refine K_ret ⟨_, rfl, ?_⟩
  exact ⟨by rw [if_pos (by assumption)]; rfl, S.drop⟩
 have hn : 1 ≤ n := by omega
 rw [if_neg (show ¬ n < 1 by omega)]
 skip
 all_goals (repeat' (first | (refine K_region (id := 3) ?_; refine lB S rfl rfl ?_; refine mv ?_)))
 (refine KO_fn rfl rfl rfl rfl rfl ((rPlates_ok S.wf pv p (H.ext w S.ext) hP.tabs vq q (rq.ext w S.ext) (by omega) hqb).mono ?_); rintro vp h x) <;> (replace S := S.join1 x; clear x; refine mv ?_; refine KO_nil ?_)
 all_goals (repeat' (first | refine K_seq ?_ | refine k_block ?_ | (refine K_region (id := 4) ?_; refine mv ?_; refine mv ?_; refine KO_nil ?_) | (refine K_region (id := 5) ?_; refine mv ?_; refine KO_nil ?_)))
 have hpl := pltV_len (p := p) (q := q)
 obtain ⟨pl, hpe⟩ : ∃ pl, pltV p q = pl := ⟨_, rfl⟩
 rw [hpe] at S hpl hld hsm ⊢
 have hp0 : ∀ x ∈ pl, 0 ≤ x := fun x hx => by
  obtain ⟨j, hj, rfl⟩ := mem_iff_getD.1 hx
  exact (hld j).1
 refine k_loop (σ := Nat) (fun i h' => Hs h0 h' [.sl vp 3 1 eI pl] ∧ i ≤ pl.length ∧ (0 ≤ (pl.take i).sum ∧ (pl.take i).sum ≤ 1000 * i) ∧ (0 ≤ mxF (fun i => pl.getD i default) i ∧ mxF (fun i => pl.getD i default) i ≤ 64)) (fun i => pl.length - i) (fun i => [(2, .int .i64 n), (7, vp), (8, .int .i64 (pl.take i).sum), (9, .int .i64 (mxF (fun i => pl.getD i default) i)), (10, .int .i64 i)]) 0 (by repeat (first | exact Ks.le_nil _ | refine Ks.le_cons rfl ?_)) ?_ ?_
 ·exact ⟨S.pick, Nat.zero_le _, by simp, by simp [mxF]⟩
 clear S
 rintro i h ⟨S, g1, g2, g3⟩
 all_goals (repeat' (first | refine K_seq ?_ | refine k_cond rfl ?_ | refine K_skip ?_ | refine K_exit ?_ | refine k_block ?_ | (refine K_region (id := 6) ?_; refine mv ?_; refine mv ?_; refine lnS S rfl rfl ?_; (first | (refine cS ?_ ?_ <;> intro hc)) <;> (refine KO_nil ?_))))
 ·have hi : i < pl.length := by omega
  have e2 : (pl.take (i + 1)).sum = (pl.take i).sum + pl.getD (i : Int).toNat default := by rw [take_getD hi]; simp
  have e3_ : mxF (fun i => pl.getD i default) (i + 1) = max (mxF (fun i => pl.getD i default) i) (pl.getD (i : Int).toNat default) := rfl
  have h0 : 0 ≤ pl.getD (i : Int).toNat default ∧ pl.getD (i : Int).toNat default ≤ q.length := hld i
  all_goals (repeat' (first | (refine K_region (id := 8) ?_; refine mv ?_; refine mv ?_; refine mv ?_; refine ixS2 S rfl rfl ?_; refine lES2 S rfl rfl ?_; refine ad ?_; refine mv ?_; refine KO_nil ?_) | (refine K_region (id := 9) ?_; refine mv ?_; refine mv ?_; refine mv ?_; refine ixS2 S rfl rfl ?_; refine lES2 S rfl rfl ?_; refine mx ?_; refine mv ?_; refine KO_nil ?_)))
  rw [← e2, ← e3_]
  all_goals (repeat' (first | (refine K_region (id := 7) ?_; refine mv ?_; refine ad ?_; refine mv ?_; refine KO_nil ?_)))
  refine ⟨i + 1, ?_, ?_, (by repeat (first | exact Ks.le_nil _ | refine Ks.le_cons rfl ?_))⟩
  ·show pl.length - (i + 1) < pl.length - i; omega
  ·exact ⟨S, by omega, by omega, by rw [e3_]; omega⟩
 obtain rfl : i = pl.length := by omega
 rw [List.take_of_length_le (Nat.le_refl _)] at g2 ⊢
 have hmx : mxF (fun i => pl.getD i default) pl.length ≤ ldN pl n := by unfold ldN; omega
 have hle : ldN pl n ≤ 64 := by
  have : pl.sum / n + min 1 (pl.sum % n) ≤ 64 := (ceil_le hn).2 (by
   have : 64 * 1 ≤ 64 * n := Int.mul_le_mul_of_nonneg_left hn (by omega)
   omega)
  unfold ldN
  omega
 all_goals (repeat' (first | refine K_seq ?_ | refine k_cond rfl ?_ | refine K_skip ?_ | refine k_block ?_ | (refine K_region (id := 10) ?_; refine mv ?_; (first | (refine cS ?_ ?_ <;> intro hc)) <;> (refine KO_nil ?_))))
 ·refine k_loop (σ := Int) (fun m h' => Hs h0 h' [.sl vp 3 1 eI pl] ∧ mxF (fun i => pl.getD i default) pl.length ≤ m ∧ m ≤ ldN pl n) (fun m => (ldN pl n - m).toNat) (fun m => [(2, .int .i64 n), (8, .int .i64 pl.sum), (9, .int .i64 m)]) (mxF (fun i => pl.getD i default) pl.length) (by repeat (first | exact Ks.le_nil _ | refine Ks.le_cons rfl ?_)) ?_ ?_
  ·exact ⟨S, Int.le_refl _, hmx⟩
  clear S
  rintro m h ⟨S, k1, k2⟩
  have b1 : 0 ≤ m * n := Int.mul_nonneg (by omega) (by omega)
  have b2 : m * n ≤ 64 * 100 := Int.le_trans (Int.mul_le_mul_of_nonneg_right (show m ≤ 64 by omega) (by omega)) (Int.mul_le_mul_of_nonneg_left (show n ≤ 100 by omega) (by omega))
  all_goals (repeat' (first | refine K_seq ?_ | refine k_cond rfl ?_ | refine K_skip ?_ | refine K_exit ?_ | refine k_block ?_ | (refine K_region (id := 11) ?_; refine mv ?_; refine mv ?_; refine ml ?_; refine mv ?_; (first | (refine cS ?_ ?_ <;> intro hc)) <;> (refine KO_nil ?_))))
  ·have hup := ldN_up hn k2 k1 (by assumption)
   all_goals (repeat' (first | (refine K_region (id := 12) ?_; refine mv ?_; refine ad ?_; refine mv ?_; refine KO_nil ?_)))
   refine ⟨m + 1, ?_, ?_, (by repeat (first | exact Ks.le_nil _ | refine Ks.le_cons rfl ?_))⟩
   ·show (ldN pl n - (m + 1)).toNat < (ldN pl n - m).toNat; omega
   ·exact ⟨S, by omega, hup⟩
  ·have e := ldN_end hn k1 k2 (by assumption)
   subst e
   all_goals (repeat' (first | (refine K_region (id := 13) ?_; refine mv ?_; refine mv ?_; refine KO_nil ?_)))
   refine K_ret ⟨_, rfl, ?_⟩
   exact ⟨rfl, S.drop⟩
 ·all_goals (repeat' (first | (refine K_region (id := 13) ?_; refine mv ?_; refine mv ?_; refine KO_nil ?_)))
  refine K_ret ⟨_, rfl, ?_⟩
  exact ⟨by rw [ldN_many hp0 (by omega)]; rfl, S.drop⟩
structure PbZ (h : AH) (v : PbV) (p : Pb) : Prop where
 tr : RdL h v.vt.val 7 eT p.tabs
 tt : ∀ i, i < p.tabs.length → TabR h (tb p.tabs i)
 tc : CapOk v.vt.val
 op : ∀ i, i < p.tabs.length → (p.tabs.getD i default).opn.length * 8 ≤ 140737488351232
 rol : RlOk h v.rl p.rl
 gc : CapOk v.vg.val
 tg : ∀ i, i < v.gs.length → (v.gs.getD i default).tg.length ≤ 8796093021952
 cl : RdL h v.vc.val 1 eI p.cl
 ru : RdL h v.vr.val 6 eRu p.ru
 rk : ∀ r ∈ p.ru, 0 ≤ r.k ∧ r.k ≤ 255
 lt : p.tabs.length ≤ 9223372036854775807
 lc : p.cl.length ≤ 9223372036854775807
 lr : p.ru.length ≤ 9223372036854775807
theorem PbZ.ext {h h' : AH} {v : PbV} {p : Pb} (a : PbZ h v p) (w : WfH h) (x : Ext h h') : PbZ h' v p := ⟨a.tr.ext w x, fun i hi => (a.tt i hi).ext w x, a.tc, a.op, a.rol.ext w x, a.gc, a.tg, a.cl.ext w x, a.ru.ext w x, a.rk, a.lt, a.lc, a.lr⟩
def FewP (p : Pb) (n : Nat) : Prop := p.tabs.length ≤ n ∧ p.us.length ≤ n ∧ p.ts.length ≤ n ∧ p.cl.length ≤ n ∧ p.ru.length ≤ n
theorem PbZ.ok {h : AH} {v : PbV} {p : Pb} (a : PbZ h v p) (f : FewP p 20) : PbOk h v p := ⟨⟨a.tr, a.tt, by have := f.1; omega, a.tc⟩, a.rol, a.cl, a.ru, by have := f.2.2.2.1; omega, by have := f.2.2.2.2; omega⟩
theorem PbZ.fit {h : AH} {v : PbV} {p : Pb} (a : PbZ h v p) (f : FewP p 20) : PbFit h v p := ⟨a.ok f, a.op, a.tg, by obtain ⟨f1, f2, f3, f4, f5⟩ := f; omega⟩
theorem PbZ.m {h : AH} {v : PbV} {p : Pb} (a : PbZ h v p) (f : FewP p 20) : PbM v p := ⟨a.gc, by obtain ⟨f1, f2, f3, f4, f5⟩ := f; omega, a.rk⟩
theorem kfew_ok {h0 : AH} (w : WfH h0) (pv : PbV) (p : Pb) (H : PbZ h0 pv p) (n : Nat) :
 Fn Tryz.prog Xh 11 [pv.val, .int .i64 n] h0 (fun u h' => BoolIs u (FewP p n) ∧ Hs h0 h' []) := by
 have S := Hs.start w
 have h1 := H.tr
 have h2 := H.rol.rg
 have h3 : RdL h0 pv.vi.val 3 eTi p.ts := H.rol.rt
 have h4 := H.cl
 have h5 := H.ru
 have e : pv.gs.length = p.us.length := H.rol.len
 have e2 : pv.rl.gs.length = p.us.length := H.rol.len
 unfold PbV.val
 refine Fn_K (by first | rfl) Tryz.func11 rfl rfl ?_
 all_goals (repeat' (first | refine K_seq ?_ | (refine K_region (id := 0) ?_; (refine bx S ?_; clear S; intro b h S); refine mv ?_; refine KO_nil ?_) | (refine K_region (id := 1) ?_; refine vl ?_; refine lB S rfl rfl ?_; refine lnB S ?_; refine mv ?_; (first | (refine cS ?_ ?_ <;> intro hc)) <;> (refine mv ?_; (first | refine off ?_ | (refine vl ?_)); (first | refine off ?_ | (refine lB S rfl rfl ?_)); (first | refine off ?_ | (refine lnB S ?_)); (first | refine off ?_ | refine mv ?_); (first | refine off ?_ | (first | (refine cS ?_ ?_ <;> intro hc))) <;> (refine vl ?_; refine mv ?_; (first | refine off ?_ | (refine vl ?_)); (first | refine off ?_ | (refine lB S rfl rfl ?_)); (first | refine off ?_ | (refine lnB S ?_)); (first | refine off ?_ | refine mv ?_); (first | refine off ?_ | (first | (refine cS ?_ ?_ <;> intro hc))) <;> (refine vl ?_; refine mv ?_; (first | refine off ?_ | (refine vl ?_)); (first | refine off ?_ | (refine lB S rfl rfl ?_)); (first | refine off ?_ | (refine lnB S ?_)); (first | refine off ?_ | refine mv ?_); (first | refine off ?_ | (first | (refine cS ?_ ?_ <;> intro hc))) <;> (refine vl ?_; refine mv ?_; (first | refine off ?_ | (refine vl ?_)); (first | refine off ?_ | (refine lB S rfl rfl ?_)); (first | refine off ?_ | (refine lnB S ?_)); (first | refine off ?_ | refine mv ?_); (first | refine off ?_ | (first | (refine cS ?_ ?_ <;> intro hc))) <;> (refine vl ?_; refine mv ?_; refine KO_nil ?_))))))))
 all_goals (refine K_ret ⟨_, rfl, ?_⟩)
 all_goals (refine ⟨?_, S.drop⟩; unfold BoolIs FewP)
 all_goals first | exact .inl ⟨rfl, by omega⟩ | exact .inr ⟨rfl, by omega⟩
theorem fewF_ok {h0 : AH} (w : WfH h0) (v : Value) (l : List Int) (r : RdL h0 v 1 eI l) : Fn Tryz.prog Xh 13 [v] h0 (fun u h' => BoolIs u (30 < l.length) ∧ Hs h0 h' []) := by
 have S := Hs.start w
 refine Fn_K (by first | rfl) Tryz.func13 rfl rfl ?_
 all_goals (repeat' (first | refine K_seq ?_ | (refine K_region (id := 0) ?_; refine mv ?_; refine KO_nil ?_) | (refine K_region (id := 1) ?_; refine mv ?_; refine lnB S ?_; (first | (refine cS ?_ ?_ <;> intro hc)) <;> (refine mv ?_; refine KO_nil ?_))))
 all_goals (refine K_ret ⟨_, rfl, ?_⟩)
 all_goals (refine ⟨?_, S.drop⟩; unfold BoolIs)
 all_goals first | exact .inl ⟨rfl, by omega⟩ | exact .inr ⟨rfl, by omega⟩
theorem anyL_ok {h0 : AH} (w : WfH h0) (v : Value) (rows : List Row_) (r : RdL h0 v 1 eRow rows) (rr : ∀ i, i < rows.length → RdL h0 (rows.getD i default).sv.val 1 eI (rows.getD i default).r) (hl : rows.length ≤ 1000) :
 Fn Tryz.prog Xh 49 [v, .func (.func 13) #[] #[]] h0 (fun u h' => IdxIs u (fun i => 30 < (rows.getD i default).r.length) rows.length ∧ Hs h0 h' []) := by
 have S := Hs.start w
 refine Fn_K (by first | rfl) Tryz.func49 rfl rfl ?_
 all_goals (repeat' (first | refine K_seq ?_ | refine k_block ?_ | (refine K_region (id := 0) ?_; refine mv ?_; refine KO_nil ?_) | (refine K_region (id := 1) ?_; refine mv ?_; refine lnB S ?_; refine mv ?_; refine KO_nil ?_)))
 refine k_loop (σ := Nat) (fun i h' => Hs h0 h' [] ∧ i ≤ rows.length ∧ (∀ j, j < i → ¬ 30 < (rows.getD j default).r.length)) (fun i => rows.length - i) (fun i => [(0, v), (1, .func (.func 13) #[] #[]), (7, .int .i64 rows.length), (8, .int .i64 i)]) 0 (by repeat (first | exact Ks.le_nil _ | refine Ks.le_cons rfl ?_)) ?_ ?_
 ·exact ⟨S, Nat.zero_le _, fun j hj => absurd hj (Nat.not_lt_zero _)⟩
 clear S
 rintro i h ⟨S, g1, g2⟩
 all_goals (repeat' (first | refine K_seq ?_ | refine k_cond rfl ?_ | refine K_skip ?_ | refine K_exit ?_ | refine k_block ?_ | (refine K_region (id := 2) ?_; (first | (refine cS ?_ ?_ <;> intro hc)) <;> (refine KO_nil ?_))))
 ·have hi : i < rows.length := by omega
  have ri := (rr i hi).ext w S.ext
  all_goals (repeat' (first | refine K_seq ?_ | (refine K_region (id := 3) ?_; refine mv ?_; refine mv ?_; refine KO_nil ?_) | (refine K_region (id := 4) ?_; refine mv ?_; refine mv ?_; refine mv ?_; refine ixB S ?_; refine lEB S ?_)))
  simp only [Int.toNat_natCast]
  (refine KO_call rfl rfl rfl rfl ((fewF_ok S.wf (rows.getD i default).sv.val (rows.getD i default).r ri).mono ?_); rintro _ h ⟨⟨rfl, z⟩ | ⟨rfl, z⟩, x⟩) <;> (replace S := S.join0 x; clear x; refine KO_nil ?_)
  ·all_goals (repeat' (first | refine K_seq ?_ | refine k_cond rfl ?_ | (refine K_region (id := 5) ?_; refine mv ?_; refine mv ?_; refine KO_nil ?_)))
   refine K_ret ⟨_, rfl, ?_⟩
   exact ⟨.inl ⟨i, hi, rfl, z, g2⟩, S⟩
  ·all_goals (repeat' (first | refine k_cond rfl ?_ | refine K_skip ?_ | (refine K_region (id := 6) ?_; refine ad ?_; refine mv ?_; refine KO_nil ?_)))
   refine ⟨i + 1, ?_, ?_, (by repeat (first | exact Ks.le_nil _ | refine Ks.le_cons rfl ?_))⟩
   ·show rows.length - (i + 1) < rows.length - i; omega
   ·exact ⟨S, by omega, nxtD g2 z⟩
 ·all_goals (repeat' (first | (refine K_region (id := 7) ?_; refine mv ?_; refine KO_nil ?_)))
  refine K_ret ⟨_, rfl, ?_⟩
  exact ⟨.inr ⟨rfl, fun j hj => g2 j (by omega)⟩, S⟩
theorem anyC_ok {h0 : AH} (w : WfH h0) (v : Value) (rows : List Row_) (r : RdL h0 v 1 eRow rows) (rr : ∀ i, i < rows.length → RdL h0 (rows.getD i default).sv.val 1 eI (rows.getD i default).r) (hl : rows.length ≤ 1000) :
 Fn Tryz.prog Xh 12 [v, .func (.func 13) #[] #[]] h0 (fun u h' => BoolIs u (∃ i, i < rows.length ∧ 30 < (rows.getD i default).r.length) ∧ Hs h0 h' []) := by
 have S := Hs.start w
 refine Fn_K (by first | rfl) Tryz.func12 rfl rfl ?_
 all_goals (repeat' (first | refine K_seq ?_ | (refine K_region (id := 0) ?_; refine mv ?_; refine KO_nil ?_) | (refine K_region (id := 1) ?_; refine mv ?_; refine mv ?_)))
 (refine KO_fn rfl rfl rfl rfl rfl ((anyL_ok S.wf v rows r rr hl).mono ?_); rintro _ h ⟨⟨i, hi, rfl, z, -⟩ | ⟨rfl, z⟩, x⟩) <;> (replace S := S.join0 x; clear x; (first | refine cT ?_ | refine cF ?_) <;> (refine mv ?_; refine KO_nil ?_))
 all_goals (all_goals (repeat' (fail)))
 all_goals (refine K_ret ⟨_, rfl, ?_⟩)
 all_goals (refine ⟨?_, S.drop⟩; unfold BoolIs)
 ·exact .inl ⟨rfl, i, hi, z⟩
 ·exact .inr ⟨rfl, fun ⟨j, hj, z2⟩ => z j hj z2⟩
theorem lfew_ok {h0 : AH} (w : WfH h0) (pv : PbV) (p : Pb) (H : PbZ h0 pv p) (v : Value) (rows : List Row_) (r : RdL h0 v 1 eRow rows) (rr : ∀ i, i < rows.length → RdL h0 (rows.getD i default).sv.val 1 eI (rows.getD i default).r) (hl : rows.length ≤ 1000) :
 Fn Tryz.prog Xh 6 [pv.val, v] h0 (fun u h' => BoolIs u (p.tabs.length ≤ 5 ∧ FewP p 20 ∧ ∀ i, i < rows.length → (rows.getD i default).r.length ≤ 30) ∧ Hs h0 h' []) := by
 have S := Hs.start w
 have h1 := H.tr
 unfold PbV.val
 refine Fn_K (by first | rfl) Tryz.func6 rfl rfl ?_
 all_goals (repeat' (first | refine K_seq ?_ | (refine K_region (id := 0) ?_; (refine bx S ?_; clear S; intro b h S); refine mv ?_; refine KO_nil ?_) | (refine K_region (id := 1) ?_; refine vl ?_; refine lB S rfl rfl ?_; refine lnB S ?_; (first | (refine cS ?_ ?_ <;> intro hc)) <;> (refine mv ?_; (first | refine off ?_ | (refine lB S rfl rfl ?_)); (first | (refine off ?_; refine vl ?_; refine mv ?_; refine off ?_; (first | (refine off ?_; refine off ?_; refine vl ?_; refine mv ?_; refine KO_nil ?_))) | skip)))))
 all_goals (try ((refine KO_fn rfl rfl rfl rfl rfl ((kfew_ok S.wf pv p (H.ext w S.ext) 20).mono ?_); rintro _ h ⟨⟨rfl, z1⟩ | ⟨rfl, z1⟩, x⟩) <;> (replace S := S.join0 x; clear x; refine vl ?_; refine mv ?_; (first | refine off ?_ | refine mv ?_); (first | (refine off ?_; refine off ?_; refine vl ?_; refine mv ?_; refine KO_nil ?_) | skip))))
 all_goals (try ((refine KO_fn rfl rfl rfl rfl rfl ((anyC_ok S.wf v rows (r.ext w S.ext) (fun i hi => (rr i hi).ext w S.ext) hl).mono ?_); rintro _ h ⟨⟨rfl, z2⟩ | ⟨rfl, z2⟩, x⟩) <;> (replace S := S.join0 x; clear x; refine vl ?_; refine vl ?_; refine mv ?_; refine KO_nil ?_)))
 all_goals (all_goals (repeat' (fail)))
 all_goals (refine K_ret ⟨_, rfl, ?_⟩)
 all_goals (refine ⟨?_, S.drop⟩; unfold BoolIs)
 all_goals first
  | exact .inl ⟨rfl, by omega, z1, fun i hi => Nat.le_of_not_lt fun q => z2 ⟨i, hi, q⟩⟩
  | exact .inr ⟨rfl, fun q => z1 q.2.1⟩
  | exact .inr ⟨rfl, fun q => by obtain ⟨i, hi, h3⟩ := z2; have := q.2.2 i hi; omega⟩
  | exact .inr ⟨rfl, fun q => by have := q.1; omega⟩
theorem sameLists_ok {h0 : AH} (w : WfH h0) (v u : Value) (a b : List Row_) (ra : RdL h0 v 1 eRow a) (rb : RdL h0 u 1 eRow b) (rra : ∀ i, i < a.length → RdL h0 (a.getD i default).sv.val 1 eI (a.getD i default).r) (rrb : ∀ i, i < b.length → RdL h0 (b.getD i default).sv.val 1 eI (b.getD i default).r) (ha : a.length ≤ 1000000) (hb : b.length ≤ 1000000)
 (he : a.map (·.r) = b.map (·.r)) (hm : ∀ i, i < a.length → (a.getD i default).r.length ≤ 1000000) :
 Fn Tryz.prog Xh 20 [v, u] h0 (fun x h' => x = .bool true ∧ Hs h0 h' []) := by
 have S := Hs.start w
 have hlen : a.length = b.length := by have := congrArg List.length he; simpa using this
 refine Fn_K (by first | rfl) Tryz.func20 rfl rfl ?_
 all_goals (repeat' (first | refine K_seq ?_ | refine k_cond rfl ?_ | refine K_skip ?_ | refine k_block ?_ | (refine K_region (id := 0) ?_; refine mv ?_; refine KO_nil ?_) | (refine K_region (id := 1) ?_; refine mv ?_; refine lnB S ?_; refine mv ?_; refine lnB S ?_; (refine cF ?_) <;> (refine KO_nil ?_)) | (refine K_region (id := 3) ?_; refine mv ?_; refine KO_nil ?_)))
 refine k_loop (σ := Nat) (fun i h' => Hs h0 h' [] ∧ i ≤ a.length) (fun i => a.length - i) (fun i => [(0, v), (1, u), (5, .int .i64 i)]) 0 (by repeat (first | exact Ks.le_nil _ | refine Ks.le_cons rfl ?_)) ?_ ?_
 ·exact ⟨S, Nat.zero_le _⟩
 clear S
 rintro i h ⟨S, g1⟩
 all_goals (repeat' (first | refine K_seq ?_ | refine k_cond rfl ?_ | refine K_skip ?_ | refine K_exit ?_ | refine k_block ?_ | (refine K_region (id := 4) ?_; refine mv ?_; refine mv ?_; refine lnB S ?_; (first | (refine cS ?_ ?_ <;> intro hc)) <;> (refine KO_nil ?_))))
 ·have hi : i < a.length := by omega
  have e1 : (a.getD i default).r = (b.getD i default).r := by
   rw [← map_getD (f := fun x : Row_ => x.r) hi, ← map_getD (f := fun x : Row_ => x.r) (show i < b.length by omega), he]
  have ri := (rra i hi).ext w S.ext
  have rj := (rrb i (by omega)).ext w S.ext
  have hmi := hm i hi
  have hmj : (b.getD i default).r.length ≤ 9223372036854775807 := by rw [← e1]; omega
  all_goals (repeat' (first | (refine K_draw (id := 6) ?_; refine mv ?_; refine mv ?_; refine ixB S ?_; refine lEB S ?_; refine mv ?_; refine mv ?_; refine ixB S ?_; refine lEB S ?_)))
  simp only [Int.toNat_natCast]
  (refine KO_fn rfl rfl rfl rfl rfl ((sameInts_ok S.wf (a.getD i default).sv.val (b.getD i default).sv.val (a.getD i default).r (b.getD i default).r ri rj (by omega) hmj).mono ?_); rintro _ h ⟨⟨rfl, z⟩ | ⟨rfl, z⟩, x⟩) <;> (replace S := S.join0 x; clear x; refine vl ?_; refine KO_nil ?_)
  ·all_goals (repeat' (first | refine k_cond rfl ?_ | refine K_skip ?_ | (refine K_region (id := 5) ?_; refine mv ?_; refine ad ?_; refine mv ?_; refine KO_nil ?_)))
   refine ⟨i + 1, ?_, ?_, (by repeat (first | exact Ks.le_nil _ | refine Ks.le_cons rfl ?_))⟩
   ·show a.length - (i + 1) < a.length - i; omega
   ·exact ⟨S, by omega⟩
  ·exact absurd e1 z
 ·all_goals (repeat' (first | (refine K_region (id := 8) ?_; refine mv ?_; refine KO_nil ?_)))
  refine K_ret ⟨_, rfl, ?_⟩
  exact ⟨rfl, S⟩
theorem lsame_ok {h0 : AH} (w : WfH h0) (v u : PbV) (p q : Pb) (H : PbOk h0 v p) (K : PbOk h0 u q) (he : SamePb p q) (va vb : Value) (l m : List Int) (ra : RdL h0 va 1 eI l) (rb : RdL h0 vb 1 eI m) (hlm : l = m) (hl : l.length ≤ 1000000) :
 Fn Tryz.prog Xh 22 [v.val, u.val, va, vb] h0 (fun x h' => x = .bool true ∧ Hs h0 h' []) := by
 have S := Hs.start w
 unfold PbV.val
 refine Fn_K (by first | rfl) Tryz.func22 rfl rfl ?_
 all_goals (repeat' (first | refine K_seq ?_ | (refine K_region (id := 0) ?_; (refine bx S ?_; clear S; intro b h S); (refine bx S ?_; clear S; intro b h S); refine mv ?_; refine KO_nil ?_) | (refine K_region (id := 1) ?_; refine lB S rfl rfl ?_; refine lB S rfl rfl ?_)))
 (refine KO_fn rfl rfl rfl rfl rfl ((samePb_ok S.wf v u p q (H.ext w S.ext) (K.ext w S.ext)).mono ?_); rintro _ h ⟨⟨rfl, z⟩ | ⟨rfl, z⟩, x⟩) <;> (replace S := S.join0 x; clear x; refine mv ?_; (first | refine off ?_ | refine mv ?_); (first | refine off ?_ | refine mv ?_); (first | (refine off ?_; refine vl ?_; refine mv ?_; refine KO_nil ?_) | skip))
 rotate_left
 ·exact absurd he z
 all_goals (repeat' (fail))
 (refine KO_fn rfl rfl rfl rfl rfl ((equalI_ok S.wf va vb l m (ra.ext w S.ext) (rb.ext w S.ext) hl).mono ?_); rintro _ h ⟨⟨rfl, z⟩ | ⟨rfl, z⟩, x⟩) <;> (replace S := S.join0 x; clear x; refine vl ?_; refine mv ?_; refine KO_nil ?_)
 rotate_left
 ·exact absurd hlm z
 all_goals (repeat' (fail))
 refine K_ret ⟨_, rfl, ?_⟩
 exact ⟨rfl, S.drop⟩
theorem fault_ok {h0 : AH} (w : WfH h0) (v : PbV) (p : Pb) (H : PbOk h0 v p) (M : PbM v p) (vq : Value) (q : List Int) (rq : RdL h0 vq 1 eI q) (hq : q.length ≤ 9223372036854775807) :
 Fn Tryz.prog Xh 16 [v.val, vq] h0 (fun u h' => ∃ i e, u = .int .i64 e ∧ PaC p q false i e ∧ Hs h0 h' []) := by
 have S := Hs.start w
 unfold PbV.val
 refine Fn_K (by first | rfl) Tryz.func16 rfl rfl ?_
 all_goals (repeat' (first | refine K_seq ?_ | (refine K_region (id := 0) ?_; (refine bx S ?_; clear S; intro b h S); refine mv ?_; refine KO_nil ?_) | (refine K_region (id := 1) ?_; refine lB S rfl rfl ?_; refine mv ?_)))
 (refine KO_fn rfl rfl rfl rfl rfl ((rCheck5_ok S.wf v p (H.ext w S.ext) M vq q (rq.ext w S.ext) hq false).mono ?_); rintro _ h ⟨i, e, rfl, hk, x⟩) <;> (replace S := S.join0 x; clear x; refine mv ?_; refine vl ?_; refine vl ?_; refine mv ?_; refine mv ?_; refine KO_nil ?_)
 all_goals (repeat' (first | refine K_seq ?_ | (refine K_region (id := 2) ?_; refine mv ?_; refine mv ?_; refine KO_nil ?_)))
 refine K_ret ⟨_, rfl, ?_⟩
 exact ⟨i, e, rfl, hk, S.drop⟩
theorem BasP.uniq {p : Pb} {i e i' e' : Int} (a : BasP p i e) (b : BasP p i' e') : e = e' := by
 by_cases hb : BO p
 ·rw [(hb.basP a).2, (hb.basP b).2]
 rcases a with ⟨h1, h2⟩ | ⟨h1, h2⟩ | ⟨h1, h2, h3⟩ <;> rcases b with ⟨g1, g2⟩ | ⟨g1, g2⟩ | ⟨g1, g2, g3⟩
 ·exact (h2.uniq g2).2
 ·exact absurd (h2.valid.2 g1) h1
 ·exact absurd (h2.valid.2 g1) h1
 ·exact absurd (g2.valid.2 h1) g1
 ·exact (h2.uniq g2).2
 ·exact absurd (VRl_iff.2 g2) h2.not
 ·exact absurd (g2.valid.2 h1) g1
 ·exact absurd (VRl_iff.2 h2) g2.not
 ·rcases h3 with ⟨h3, h4, h5⟩ | ⟨h3, h4⟩ <;> rcases g3 with ⟨g3, g4, g5⟩ | ⟨g3, g4⟩
  ·omega
  ·exact absurd g3 h3
  ·exact absurd h3 g3
  ·omega
theorem CkP.uniq {p : Pb} {i e i' e' : Int} (a : CkP p i e) (b : CkP p i' e') : e = e' := by
 rcases a with ⟨h1, h2⟩ | ⟨h1, h2⟩ <;> rcases b with ⟨g1, g2⟩ | ⟨g1, g2⟩
 ·exact h2.uniq g2
 ·exact absurd (g1.basP h2).2 h1
 ·exact absurd (h1.basP g2).2 g1
 ·rcases h2 with ⟨j, k1, k2, k3, k4, k5⟩ | ⟨k1, k2, k3, k4⟩ <;> rcases g2 with ⟨m, l1, l2, l3, l4, l5⟩ | ⟨l1, l2, l3, l4⟩
  ·have hjm : j = m := by
    rcases Nat.lt_trichotomy j m with r | r | r
    ·exfalso
     rcases k5 with ⟨k5, -⟩ | ⟨-, k5, -⟩
     ·exact k5 (l4 j r)
     ·omega
    ·exact r
    ·exfalso
     rcases l5 with ⟨l5, -⟩ | ⟨-, l5, -⟩
     ·exact l5 (k4 m r)
     ·omega
   subst hjm
   rcases k5 with ⟨k5, k6⟩ | ⟨k5, k6, k7⟩ <;> rcases l5 with ⟨l5, l6⟩ | ⟨l5, l6, l7⟩
   ·omega
   ·exact absurd l5 k5
   ·exact absurd k5 l5
   ·omega
  ·exfalso
   rcases k5 with ⟨k5, -⟩ | ⟨-, k5, -⟩
   ·exact k5 (l2 j k1)
   ·omega
  ·exfalso
   rcases l5 with ⟨l5, -⟩ | ⟨-, l5, -⟩
   ·exact l5 (k2 m l1)
   ·omega
  ·omega
theorem PaE.uniq {N n : Nat} {q : List Int} {wh : Bool} {i e i' e' : Int} (a : PaE N q n wh i e) (b : PaE N q n wh i' e') : e = e' := by
 have bad : ∀ {g : Nat} {e : Int}, ((wh = true ∧ q.getD g default = -1 ∧ e = 52) ∨ ((q.getD g default < -1 ∨ (N : Int) ≤ q.getD g default) ∧ e = 50) ∨ (0 ≤ q.getD g default ∧ q.getD g default < N ∧ (∃ j, j < g ∧ q.getD j default = q.getD g default) ∧ e = 51)) → ∀ m, g < m → PaI N q m → (wh = true → ∀ j, j < m → q.getD j default ≠ -1) → False := by
  rintro g e (⟨h1, h2, -⟩ | ⟨h1, -⟩ | ⟨h1, h2, ⟨j, h3, h4⟩, -⟩) m hm k1 k2
  ·exact k2 h1 g hm h2
  ·have := k1.1 g hm; omega
  ·exact k1.2 j g h3 hm (by omega) h4
 rcases a with ⟨h1, -, h2⟩ | ⟨h1, ⟨g, h2, h3, h4, h5, h6⟩ | ⟨h2, h3, h4, h5⟩⟩ <;> rcases b with ⟨g1, -, g2⟩ | ⟨g1, ⟨m, l2, l3, l4, l5, l6⟩ | ⟨l2, l3, l4, l5⟩⟩
 ·omega
 ·exact absurd g1 h1
 ·exact absurd g1 h1
 ·exact absurd h1 g1
 ·have hgm : g = m := by
   rcases Nat.lt_trichotomy g m with r | r | r
   ·exact (bad h6 m r l4 l5).elim
   ·exact r
   ·exact (bad l6 g r h4 h5).elim
  subst hgm
  rcases h6 with ⟨a1, a2, a3⟩ | ⟨a1, a2⟩ | ⟨a1, a2, a3, a4⟩ <;> rcases l6 with ⟨b1, b2, b3⟩ | ⟨b1, b2⟩ | ⟨b1, b2, b3, b4⟩ <;> omega
 ·exact (bad h6 n h2 l2 l3).elim
 ·exact absurd h1 g1
 ·exact (bad l6 n l2 h2 h3).elim
 ·omega
theorem PaC.uniq {p : Pb} {q : List Int} {wh : Bool} {i e i' e' : Int} (a : PaC p q wh i e) (b : PaC p q wh i' e') : e = e' := by
 rcases a with ⟨h1, -, -, j, h2⟩ | ⟨h1, h2⟩ <;> rcases b with ⟨g1, -, -, m, g2⟩ | ⟨g1, g2⟩
 ·exact h2.uniq g2
 ·exact absurd g1 h1
 ·exact absurd h1 g1
 ·exact h2.uniq g2
end Go.Proofs.Xx
namespace Go.Proofs.Xx
open Go Go.Proofs
set_option linter.unusedSimpArgs false
set_option linter.unusedVariables false
set_option linter.unusedSectionVars false
set_option maxRecDepth 100000
set_option maxHeartbeats 4000000
abbrev Pb.wt (p : Pb) (tabs : List Tab) : Pb := ⟨tabs, p.us, p.ts, p.cl, p.ru⟩
theorem pbL_ok {h0 h hA : AH} {rs : List Rs} {v u : PbV} {p : Pb} {tabs : List Tab} (S : Hs h0 h (pbL v (p.wt tabs) ++ rs)) (e : tabs.map (·.toC) = p.tabs.map (·.toC)) (hu : v.gs.map (·.toGu) = p.us) (K : PbZ hA u p) (F : FewP p 20) : PbOk h v (p.wt tabs) := by
 have hl := len_c e
 obtain ⟨f1, f2, f3, f4, f5⟩ := F
 have K2 : u.gs.map (·.toGu) = p.us := K.rol.us
 refine ⟨⟨Rd.of_sl S .here, fun i hi => ?_, by show tabs.length ≤ _; omega, S.capS .here⟩, ⟨Rd.of_sl S (.there (.there .here)), Rd.of_sl S (.there (.there (.there (.there .here)))), fun i hi => ⟨?_, ?_⟩, hu, by show p.us.length ≤ _; omega, by show p.ts.length ≤ _; omega⟩, Rd.of_sl S (.there (.there (.there (.there (.there .here))))), Rd.of_sl S (.there (.there (.there (.there (.there (.there .here)))))), by show p.cl.length ≤ _; omega, by show p.ru.length ≤ _; omega⟩
 ·have hi' : i < p.tabs.length := by have : i < tabs.length := hi; omega
  obtain ⟨fp, k⟩ := Hs.anyP (p := fun h fp => Star h (tabs.map slOp) fp) S (.there .here)
  obtain ⟨fq, q⟩ := Star.get_ (r := slOp (tabs.getD i default)) k (List.mem_map.2 ⟨_, mem_getD hi, rfl⟩)
  refine ⟨sl_rdL_ q, ?_, ?_⟩
  ·have e1 : (tb tabs i).name = (tb p.tabs i).name := name_c e i
   show (tb tabs i).name.length ≤ _
   rw [e1]; exact (K.tt i hi').2.1
  ·have e1 : (tb tabs i).opn = (tb p.tabs i).opn := congrArg TabC.opn (tb_c e i)
   show (tb tabs i).opn.length ≤ _
   rw [e1]; exact (K.tt i hi').2.2
 ·obtain ⟨fp, k⟩ := Hs.anyP (p := fun h fp => Star h (v.gs.map slOf) fp) S (.there (.there (.there .here)))
  obtain ⟨fq, q⟩ := Star.get_ (r := slOf (v.gs.getD i default)) k (List.mem_map.2 ⟨_, mem_getD hi, rfl⟩)
  exact sl_rdL_ q
 ·have hgl : v.gs.length = u.gs.length := by rw [← K2] at hu; have := congrArg List.length hu; simpa using this
  have hi' : i < u.gs.length := by have : i < v.gs.length := hi; omega
  have e1 : (v.gs.getD i default).toGu = (u.gs.getD i default).toGu := by
   rw [← map_getD (f := fun g : Gst => g.toGu) (show i < v.gs.length from hi), ← map_getD (f := fun g : Gst => g.toGu) hi', hu, K2]
  have e2 : (v.gs.getD i default).tg = (u.gs.getD i default).tg := congrArg Gu.tg e1
  show (v.gs.getD i default).tg.length ≤ _
  rw [e2]
  exact (K.rol.tg i hi').2
section
variable {l m : List Tab} (h : l.map (·.toC) = m.map (·.toC))
include h
theorem ckP_c {us : List Gu} {ts : List Ti} {cl : List Int} {ru : List Ru} {i e : Int} : CkP ⟨l, us, ts, cl, ru⟩ i e ↔ CkP ⟨m, us, ts, cl, ru⟩ i e := by
 have hb : BO ⟨l, us, ts, cl, ru⟩ ↔ BO ⟨m, us, ts, cl, ru⟩ := by
  constructor
  ·rintro ⟨h1, h2, h3, h4⟩
   exact ⟨(validL_c h).1 h1, h2, h3, by have := h4; simp only [sumT_c h, len_c h] at this; exact this⟩
  ·rintro ⟨h1, h2, h3, h4⟩
   exact ⟨(validL_c h).2 h1, h2, h3, by simp only [sumT_c h, len_c h]; exact h4⟩
 unfold CkP
 rw [hb, basP_c h]
 simp only [ruE_c h]
theorem paC_c {us : List Gu} {ts : List Ti} {cl : List Int} {ru : List Ru} {q : List Int} {wh : Bool} {i e : Int} : PaC ⟨l, us, ts, cl, ru⟩ q wh i e ↔ PaC ⟨m, us, ts, cl, ru⟩ q wh i e := by
 unfold PaC
 simp only [PO_c h, ckP_c h, sumT_c h, len_c h]
theorem bestD_c {us : List Gu} {ts : List Ti} {cl : List Int} {ru : List Ru} {q : List Int} {n : Nat} : bestD ⟨l, us, ts, cl, ru⟩ q n = bestD ⟨m, us, ts, cl, ru⟩ q n := by
 unfold bestD
 rw [pltV_c h]
end
variable [Flag]
theorem sload_ok {h0 : AH} (w : WfH h0) (pv : PbV) (p : Pb) (H : PbOk h0 pv p) (vq : Value) (q : List Int) (rq : RdL h0 vq 1 eI q) (hq : q.length ≤ 9223372036854775807) (n : Int) :
 Fn Tryz.prog Xh 21 [pv.val, vq, .int .i64 n] h0 (fun u h' => ∃ k, u = .int .i64 k ∧ (n < 1 → k = 0) ∧ (¬ (PO p ∧ PartOk p q) → k = 0) ∧ (1 ≤ n → PO p → PartOk p q → k = ldN (pltV p q) n) ∧ Hs h0 h' []) := by
 by_cases hg : 1 ≤ n ∧ PO p ∧ PartOk p q
 ·refine (load_okW w pv p H hg.2.1 vq q rq hg.2.2 n hg.1).mono ?_
  rintro u h ⟨rfl, x⟩
  exact ⟨_, rfl, fun z => by omega, fun z => absurd hg.2 z, fun _ _ _ => rfl, x⟩
 have S := Hs.start w
 unfold PbV.val
 refine Fn_K (by first | rfl | exact KX.no _ _ _ (by decide) rfl) Tryz.func21 rfl rfl ?_
 all_goals (repeat' (first | refine K_seq ?_ | refine k_cond rfl ?_ | refine K_skip ?_ | refine K_exit ?_ | refine k_block ?_ | refine K_scope ?_ | refine K_label ?_ | (refine K_region (id := 0) ?_; (refine bx S ?_; clear S; intro b h S); refine mv ?_; refine KO_nil ?_)))
 obtain ⟨b3, hnm⟩ : ∃ x, x = b := ⟨_, rfl⟩; subst hnm
 all_goals (repeat' (first | refine K_seq ?_ | refine k_cond rfl ?_ | refine K_skip ?_ | refine K_exit ?_ | refine k_block ?_ | refine K_scope ?_ | refine K_label ?_ | (refine K_region (id := 1) ?_; refine mv ?_; (first | refine cT ?_ | refine cF ?_ | (refine cS ?_ ?_ <;> intro hc)) <;> (refine mv ?_; (first | refine off ?_ | (first | refine lB S rfl rfl ?_ | refine lES2 S rfl rfl ?_ | refine lEB S ?_ | refine lH S ?_)); (first | refine off ?_ | refine mv ?_); (first | (refine off ?_; (first | refine off ?_ | refine vl ?_); refine vl ?_; refine KO_nil ?_) | skip)))))
 all_goals (try ((refine KO_fn rfl rfl rfl rfl rfl ((svalid_ok S.wf pv p (H.ext w S.ext) vq q (rq.ext w S.ext) hq).mono ?_); rintro _ h ⟨⟨rfl, hv⟩ | ⟨rfl, hv⟩, x⟩) <;> (replace S := S.join0 x; clear x; (first | refine off ?_ | refine vl ?_); refine vl ?_; refine KO_nil ?_)))
 all_goals (all_goals (repeat' (first | refine K_seq ?_ | refine k_cond rfl ?_ | refine K_skip ?_ | refine K_exit ?_ | refine k_block ?_ | refine K_scope ?_ | refine K_label ?_ | (refine K_region (id := 1) ?_; refine mv ?_; (first | refine cT ?_ | refine cF ?_ | (refine cS ?_ ?_ <;> intro hc)) <;> (refine mv ?_; (first | refine off ?_ | (first | refine lB S rfl rfl ?_ | refine lES2 S rfl rfl ?_ | refine lEB S ?_ | refine lH S ?_)); (first | refine off ?_ | refine mv ?_); (first | (refine off ?_; (first | refine off ?_ | refine vl ?_); refine vl ?_; refine KO_nil ?_) | skip))) | (refine K_region (id := 2) ?_; refine mv ?_; refine KO_nil ?_))))
 ·refine K_ret ⟨_, rfl, ?_⟩
  exact ⟨0, rfl, fun _ => rfl, fun _ => rfl, fun z => by omega, S.drop⟩
 ·exact absurd ⟨by omega, hv⟩ hg
 ·refine K_ret ⟨_, rfl, ?_⟩
  exact ⟨0, rfl, fun _ => rfl, fun _ => rfl, fun _ z1 z2 => absurd ⟨z1, z2⟩ hv, S.drop⟩
end Go.Proofs.Xx
namespace Go.Proofs.Xx
open Go Go.RowKit Go.Proofs
set_option linter.unusedSimpArgs false
set_option linter.unusedVariables false
set_option linter.unusedSectionVars false
set_option maxRecDepth 100000
structure GstA (h : AH) (g : Gst) : Prop where
 rd : RdL h g.tv.val 1 eS g.tg
 cap : CapOk g.tv.val
 len : g.tg.length ≤ maxLen
 l1 : g.name.length ≤ maxLen
 l2 : g.rank.length ≤ maxLen
 l3 : g.court.length ≤ maxLen
 l4 : g.diet.length ≤ maxLen
 l5 : ∀ i, i < g.tg.length → (g.tg.getD i default).length ≤ maxLen
 wt : g.tg.length * 16 ≤ reachBytes
 i64 : (-9223372036854775808 ≤ g.since ∧ g.since ≤ 9223372036854775807) ∧ (-9223372036854775808 ≤ g.side ∧ g.side ≤ 9223372036854775807)
theorem GstA.ext {h h' : AH} {g : Gst} (a : GstA h g) (w : WfH h) (x : Ext h h') : GstA h' g := ⟨a.rd.ext w x, a.cap, a.len, a.l1, a.l2, a.l3, a.l4, a.l5, a.wt, a.i64⟩
theorem GstA.r {h : AH} {g : Gst} (a : GstA h g) : GstR h g := ⟨a.rd, by have := a.len; unfold maxLen at this; omega⟩
theorem i64_of {x : Int} (h : (Lit.int .i64 x).wf = true) : -9223372036854775808 ≤ x ∧ x ≤ 9223372036854775807 := by
 simp [Lit.wf, IntKind.min, IntKind.max, IntKind.signed, IntKind.bits] at h
 omega
theorem AR.bool1 {P : Program} {h : AH} {n : Nat} {t : TypeId} {r : List Value} (a : AR P h n t r) (hu : P.underlying t = some .bool) : ∃ b : Bool, r = [.bool b] := by
 cases n with
 | zero => exact a.elim
 | succ n =>
  unfold AR at a
  rw [hu] at a
  split at a
  all_goals (first | exact a.elim | (rename_i q _; cases q; done) | (rename_i q; cases q; done) | skip)
  all_goals exact ⟨_, rfl⟩
theorem AR.strs1 {h : AH} {n : Nat} {r : List Value} (a : AR Tryz.prog h n 96 r) : ∃ v l, r = [v] ∧ RdL h v 1 eS l ∧ (l.length ≤ maxLen ∧ l.length * Tryz.prog.bytesOf 9 ≤ reachBytes) ∧ CapOk v ∧ ∀ i, i < l.length → (l.getD i default).length ≤ maxLen :=
 AR.slice1w (e := 9) (z := 1) eS (fun s => s.length ≤ maxLen) a (by kernel_rfl) (by kernel_rfl) (fun n cs q => by
  obtain ⟨s, hs, hl⟩ := q.str1 (by kernel_rfl)
  exact ⟨s, hs, hl⟩)
theorem AR.gst1 {h : AH} {n : Nat} {r : List Value} (a : AR Tryz.prog h n 98 r) : ∃ g, r = eG g ∧ GstA h g := by
 obtain ⟨n', hl, hk⟩ := a.struct1 (m := [(0, 9), (1, 9), (2, 9), (3, 3), (4, 3), (5, 9), (6, 4), (7, 4), (8, 96)]) (z := 9) rfl (by kernel_rfl) (by kernel_rfl)
 match r, hl with
 | [x0, x1, x2, x3, x4, x5, x6, x7, x8], _ =>
  obtain ⟨s0, e0, h0⟩ := AR.str1 (show AR Tryz.prog h n' 9 [x0] from hk (0, 9) (by simp)) (by kernel_rfl)
  obtain ⟨s1, e1, h1⟩ := AR.str1 (show AR Tryz.prog h n' 9 [x1] from hk (1, 9) (by simp)) (by kernel_rfl)
  obtain ⟨s2, e2, h2⟩ := AR.str1 (show AR Tryz.prog h n' 9 [x2] from hk (2, 9) (by simp)) (by kernel_rfl)
  obtain ⟨y3, e3, h3⟩ := AR.int1 (k := .i64) (show AR Tryz.prog h n' 3 [x3] from hk (3, 3) (by simp)) (by kernel_rfl)
  obtain ⟨y4, e4, h4⟩ := AR.int1 (k := .i64) (show AR Tryz.prog h n' 3 [x4] from hk (4, 3) (by simp)) (by kernel_rfl)
  obtain ⟨s5, e5, h5⟩ := AR.str1 (show AR Tryz.prog h n' 9 [x5] from hk (5, 9) (by simp)) (by kernel_rfl)
  obtain ⟨b6, e6⟩ := AR.bool1 (show AR Tryz.prog h n' 4 [x6] from hk (6, 4) (by simp)) (by kernel_rfl)
  obtain ⟨b7, e7⟩ := AR.bool1 (show AR Tryz.prog h n' 4 [x7] from hk (7, 4) (by simp)) (by kernel_rfl)
  obtain ⟨v, l, e8, g1, g2, g3, g4⟩ := AR.strs1 (show AR Tryz.prog h n' 96 [x8] from hk (8, 96) (by simp))
  cases e0; cases e1; cases e2; cases e3; cases e4; cases e5; cases e6; cases e7
  obtain ⟨sv, rfl⟩ := g1.isSl
  cases e8
  exact ⟨⟨⟨s0, s1, s2, y3, y4, s5, b6, b7, l⟩, sv⟩, rfl, g1, g3, g2.1, h0, h1, h2, h5, g4, (show Tryz.prog.bytesOf 9 = 16 by kernel_rfl) ▸ g2.2, i64_of h3, i64_of h4⟩
theorem AR.tie1 {h : AH} {n : Nat} {r : List Value} (a : AR Tryz.prog h n 137 r) : ∃ t : Ti, r = eTi t ∧ 0 ≤ t.k ∧ t.k < 256 := by
 obtain ⟨n', hl, hk⟩ := a.struct1 (m := [(0, 9), (1, 9), (2, 135)]) (z := 3) rfl (by kernel_rfl) (by kernel_rfl)
 match r, hl with
 | [x0, x1, x2], _ =>
  obtain ⟨s0, e0, -⟩ := AR.str1 (show AR Tryz.prog h n' 9 [x0] from hk (0, 9) (by simp)) (by kernel_rfl)
  obtain ⟨s1, e1, -⟩ := AR.str1 (show AR Tryz.prog h n' 9 [x1] from hk (1, 9) (by simp)) (by kernel_rfl)
  obtain ⟨y2, e2, h2⟩ := AR.int1 (k := .u8) (show AR Tryz.prog h n' 135 [x2] from hk (2, 135) (by simp)) (by kernel_rfl)
  cases e0; cases e1; cases e2
  have : 0 ≤ y2 ∧ y2 < 256 := by
   simp [Lit.wf, IntKind.min, IntKind.max, IntKind.signed, IntKind.bits] at h2
   omega
  exact ⟨⟨s0, s1, y2⟩, rfl, this⟩
structure TabA (h : AH) (t : Tab) : Prop where
 rd : RdL h t.ov 1 eI t.opn
 name : t.name.length ≤ maxLen
 opn : t.opn.length ≤ maxLen
 w8 : t.opn.length * 8 ≤ reachBytes
theorem AR.tab1 {h : AH} {n : Nat} {r : List Value} (a : AR Tryz.prog h n 95 r) : ∃ t, r = eT t ∧ TabA h t := by
 obtain ⟨n', hl, hk⟩ := a.struct1 (m := [(0, 9), (1, 93), (2, 3), (3, 3), (4, 25), (5, 3), (6, 3)]) (z := 7) rfl (by kernel_rfl) (by kernel_rfl)
 match r, hl with
 | [x0, x1, x2, x3, x4, x5, x6], _ =>
  obtain ⟨s, e0, h0⟩ := AR.str1 (show AR Tryz.prog h n' 9 [x0] from hk (0, 9) (by simp)) (by kernel_rfl)
  obtain ⟨y1, e1, -⟩ := AR.int1 (k := .u8) (show AR Tryz.prog h n' 93 [x1] from hk (1, 93) (by simp)) (by kernel_rfl)
  obtain ⟨y2, e2, -⟩ := AR.int1 (k := .i64) (show AR Tryz.prog h n' 3 [x2] from hk (2, 3) (by simp)) (by kernel_rfl)
  obtain ⟨y3, e3, -⟩ := AR.int1 (k := .i64) (show AR Tryz.prog h n' 3 [x3] from hk (3, 3) (by simp)) (by kernel_rfl)
  obtain ⟨v, l, e4, h1, h2, h3, -⟩ := AR.slice1w (e := 3) (z := 1) eI (fun _ => True) (show AR Tryz.prog h n' 25 [x4] from hk (4, 25) (by simp)) (by kernel_rfl) (by kernel_rfl) (fun n cs q => by
   obtain ⟨x, e, -⟩ := AR.int1 (k := .i64) q (by kernel_rfl)
   exact ⟨x, e, trivial⟩)
  obtain ⟨y5, e5, -⟩ := AR.int1 (k := .i64) (show AR Tryz.prog h n' 3 [x5] from hk (5, 3) (by simp)) (by kernel_rfl)
  obtain ⟨y6, e6, -⟩ := AR.int1 (k := .i64) (show AR Tryz.prog h n' 3 [x6] from hk (6, 3) (by simp)) (by kernel_rfl)
  cases e0; cases e1; cases e2; cases e3; cases e5; cases e6
  obtain ⟨sv, rfl⟩ := h1.isSl
  cases e4
  have w1 : l.length * 8 ≤ reachBytes := (show Tryz.prog.bytesOf 3 = 8 by kernel_rfl) ▸ h2.2
  exact ⟨⟨s, y1, y2, y3, sv, l, y5, y6⟩, rfl, h1, h0, h2.1, w1⟩
theorem AR.ru1 {h : AH} {n : Nat} {r : List Value} (a : AR Tryz.prog h n 125 r) : ∃ x : Ru, r = eRu x ∧ 0 ≤ x.k ∧ x.k ≤ 255 := by
 obtain ⟨n', hl, hk⟩ := a.struct1 (m := [(0, 123), (1, 3), (2, 9), (3, 9), (4, 9), (5, 3)]) (z := 6) rfl (by kernel_rfl) (by kernel_rfl)
 match r, hl with
 | [x0, x1, x2, x3, x4, x5], _ =>
  obtain ⟨y0, e0, h0⟩ := AR.int1 (k := .u8) (show AR Tryz.prog h n' 123 [x0] from hk (0, 123) (by simp)) (by kernel_rfl)
  obtain ⟨y1, e1, -⟩ := AR.int1 (k := .i64) (show AR Tryz.prog h n' 3 [x1] from hk (1, 3) (by simp)) (by kernel_rfl)
  obtain ⟨s2, e2, -⟩ := AR.str1 (show AR Tryz.prog h n' 9 [x2] from hk (2, 9) (by simp)) (by kernel_rfl)
  obtain ⟨s3, e3, -⟩ := AR.str1 (show AR Tryz.prog h n' 9 [x3] from hk (3, 9) (by simp)) (by kernel_rfl)
  obtain ⟨s4, e4, -⟩ := AR.str1 (show AR Tryz.prog h n' 9 [x4] from hk (4, 9) (by simp)) (by kernel_rfl)
  obtain ⟨y5, e5, -⟩ := AR.int1 (k := .i64) (show AR Tryz.prog h n' 3 [x5] from hk (5, 3) (by simp)) (by kernel_rfl)
  cases e0; cases e1; cases e2; cases e3; cases e4; cases e5
  have : 0 ≤ y0 ∧ y0 ≤ 255 := by
   simp [Lit.wf, IntKind.min, IntKind.max, IntKind.signed, IntKind.bits] at h0
   omega
  exact ⟨⟨y0, y1, s2, s3, s4, y5⟩, rfl, this⟩
theorem AR.int64 {h : AH} {n : Nat} {r : List Value} (a : AR Tryz.prog h n 3 r) : ∃ x : Int, r = [.int .i64 x] ∧ -9223372036854775808 ≤ x ∧ x ≤ 9223372036854775807 := by
 obtain ⟨x, e, h⟩ := a.int1 (k := .i64) (by kernel_rfl)
 refine ⟨x, e, ?_⟩
 simp [Lit.wf, IntKind.min, IntKind.max, IntKind.signed, IntKind.bits] at h
 omega
theorem AR.intsM {h : AH} {n : Nat} {r : List Value} (a : AR Tryz.prog h n 25 r) : ∃ (sv : SlV) (l : List Int), r = [sv.val] ∧ RdL h sv.val 1 eI l ∧ l.length ≤ maxLen ∧ CapOk sv.val ∧ ∀ x ∈ l, -9223372036854775808 ≤ x ∧ x ≤ 9223372036854775807 := by
 obtain ⟨v, l, e, h1, h2, h3, h4⟩ := AR.slice1w (e := 3) (z := 1) eI (fun x => -9223372036854775808 ≤ x ∧ x ≤ 9223372036854775807) a (by kernel_rfl) (by kernel_rfl) (fun n cs q => by
  obtain ⟨x, e, h⟩ := AR.int64 q
  exact ⟨x, e, h⟩)
 obtain ⟨sv, rfl⟩ := h1.isSl
 refine ⟨sv, l, e, h1, h2.1, h3, fun x hx => ?_⟩
 obtain ⟨j, hj, rfl⟩ := mem_iff_getD.1 hx
 exact h4 j hj
theorem AR.prob1 {h : AH} {n : Nat} {r : List Value} (a : AR Tryz.prog h n 28 r) : ∃ (v : PbV) (p : Pb), r = v.cs ∧ PbZ h v p := by
 obtain ⟨n', hl, hk⟩ := a.struct1 (m := [(0, 22), (1, 23), (2, 24), (3, 25), (4, 26)]) (z := 5) rfl (by kernel_rfl) (by kernel_rfl)
 match r, hl with
 | [x0, x1, x2, x3, x4], _ =>
  obtain ⟨v0, tabs, e0, a1, a2, a3, a4⟩ := AR.slice1w (e := 95) (z := 7) eT (TabA h) (show AR Tryz.prog h n' 22 [x0] from hk (0, 22) (by simp)) (by kernel_rfl) (by kernel_rfl) (fun n cs q => q.tab1)
  obtain ⟨v1, gs, e1, g1, g2, g3, g4⟩ := AR.slice1w (e := 98) (z := 9) eG (fun g => GstA h g) (show AR Tryz.prog h n' 23 [x1] from hk (1, 23) (by simp)) (by kernel_rfl) (by kernel_rfl) (fun n cs q => q.gst1)
  obtain ⟨v2, ts, e2, t1, t2, t3, t4⟩ := AR.slice1w (e := 137) (z := 3) eTi (fun t => 0 ≤ t.k ∧ t.k < 256) (show AR Tryz.prog h n' 24 [x2] from hk (2, 24) (by simp)) (by kernel_rfl) (by kernel_rfl) (fun n cs q => q.tie1)
  obtain ⟨sc, cl, e3, c1, c2, c3, c4⟩ := AR.intsM (show AR Tryz.prog h n' 25 [x3] from hk (3, 25) (by simp))
  obtain ⟨v4, ru, e4, r1, r2, r3, r4⟩ := AR.slice1w (e := 125) (z := 6) eRu (fun x => 0 ≤ x.k ∧ x.k ≤ 255) (show AR Tryz.prog h n' 26 [x4] from hk (4, 26) (by simp)) (by kernel_rfl) (by kernel_rfl) (fun n cs q => q.ru1)
  obtain ⟨st, rfl⟩ := a1.isSl
  obtain ⟨sg, rfl⟩ := g1.isSl
  obtain ⟨si, rfl⟩ := t1.isSl
  obtain ⟨sr, rfl⟩ := r1.isSl
  cases e0; cases e1; cases e2; cases e3; cases e4
  have m1 := g2.1
  have m2 := t2.1
  have m3 := a2.1
  have m5 := r2.1
  have e : reachBytes = 140737488351232 := rfl
  unfold maxLen at m1 m2 m3 m5 c2
  refine ⟨⟨st, sg, si, sc, sr, gs⟩, ⟨tabs, gs.map (·.toGu), ts, cl, ru⟩, rfl, a1, fun i hi => ⟨(a4 i hi).rd, ?_, ?_⟩, a3, fun i hi => ?_, ⟨g1, t1, fun i hi => (g4 i hi).r, rfl, by rw [List.length_map]; omega, by show ts.length ≤ _; omega⟩, g3, fun i hi => ?_, c1, r1, fun x hx => ?_, by show tabs.length ≤ _; omega, by show cl.length ≤ _; omega, by show ru.length ≤ _; omega⟩
  ·have := (a4 i hi).name; unfold maxLen at this; show (tabs.getD i default).name.length ≤ _; omega
  ·have := (a4 i hi).opn; unfold maxLen at this; show (tabs.getD i default).opn.length ≤ _; omega
  ·have := (a4 i hi).w8; rw [e] at this; exact this
  ·have := (g4 i hi).wt; rw [e] at this; show (gs.getD i default).tg.length ≤ _; omega
  ·obtain ⟨j, hj, rfl⟩ := mem_iff_getD.1 hx
   exact r4 j hj
end Go.Proofs.Xx
namespace Go.Proofs.Xx
open Go Go.Proofs
set_option linter.unusedSimpArgs false
set_option linter.unusedVariables false
set_option linter.unusedSectionVars false
set_option maxRecDepth 100000
set_option maxHeartbeats 4000000
def WtW (p : Pb) (q : List Int) (n e : Int) (rows : List Row_) (m ld : Int) : Prop :=
 (¬ (PO p ∧ PartOk p q) ∧ (∃ i, PaC p q false i e) ∧ e ≠ 0 ∧ rows = [] ∧ m = 0 ∧ ld = 0) ∨ (PO p ∧ PartOk p q ∧ ld = (if n < 1 then 0 else ldN (pltV p q) n) ∧ ((n < 1 ∧ e = 2 ∧ rows = [] ∧ m = 0) ∨ (9 < n ∧ e = 8 ∧ rows = [] ∧ m = 0) ∨
  (∃ k : Nat, n = k ∧ 1 ≤ k ∧ k ≤ 4 ∧ e = 0 ∧ rows.length = k ∧ m = (bestD p q k).2 ∧ ∀ v, v < k → (rows.getD v default).r = divL (srv (pltV p q)) (bestD p q k).1 (srv (pltV p q)).length v)))
theorem divL_len {st B : List Int} {n v : Nat} : (divL st B n v).length ≤ st.length := by
 unfold divL
 rw [List.length_map]
 refine Nat.le_trans (List.length_filter_le _ _) ?_
 rw [List.length_take, List.length_zip]; omega
theorem lwaiters_ok {h0 : AH} (w : WfH h0) (pv : PbV) (p : Pb) (Z : PbZ h0 pv p) (F5 : p.tabs.length ≤ 5) (F : FewP p 20) (vq : Value) (q : List Int) (rq : RdL h0 vq 1 eI q) (hq : q.length ≤ 30) (n : Int) (hn : ¬ (4 < n ∧ n ≤ 9)) :
 Fn Tryz.prog Xh 7 [pv.val, vq, .int .i64 n] h0 (fun u h' => u = .bool true ∧ Hs h0 h' []) := by
 have S := Hs.start w
 unfold PbV.val
 refine Fn_K (by first | rfl) Tryz.func7 rfl rfl ?_
 all_goals (repeat' (first | refine K_seq ?_ | (refine K_region (id := 0) ?_; (refine bx S ?_; clear S; intro b h S); refine mv ?_; refine KO_nil ?_)))
 obtain ⟨b3, hnm⟩ : ∃ x, x = b := ⟨_, rfl⟩; subst hnm
 all_goals (repeat' (first | (refine K_region (id := 1) ?_; refine lB S rfl rfl ?_)))
 (refine KO_fn rfl rfl rfl rfl rfl ((cpP_ok S.wf pv p ((Z.ext w S.ext).fit F)).mono ?_); rintro _ h ⟨v', tabs, rfl, et, eu, x⟩) <;> (replace S := S.join x; clear x; refine mv ?_)
 (refine KO_fn rfl rfl rfl rfl rfl ((cloneI_ok S.wf vq q (rq.ext w S.ext) (by omega)).mono ?_); rintro vl_ h x) <;> (replace S := S.join1 x; clear x; (refine al S ?_; clear S; intro b h S); (first | (refine sB S rfl rfl ?_; clear S; intro h S)); refine mv ?_; refine KO_nil ?_)
 all_goals (repeat' (refine K_seq ?_))
 replace S : Hs h0 h [.blk b v'.cs 28, .sl vl_ 3 1 eI q, .sl v'.vt.val 95 7 eT tabs, ownR slOp tabs, .sl v'.vg.val 98 9 eG v'.gs, tgO v'.gs, .sl v'.vi.val 137 3 eTi p.ts, .sl v'.vc.val 3 1 eI p.cl, .sl v'.vr.val 125 6 eRu p.ru, .blk b3 pv.cs 28] := S
 have w1 := S.wf
 have g3 := Hs.gB (b := b3) S
 have g7 := Hs.gB (b := b) S
 have rl := Rd.of_sl S (.there .here)
 have HC := pbL_ok (rs := [.blk b3 pv.cs 28]) (show Hs h0 h (pbL v' (p.wt tabs) ++ [.blk b3 pv.cs 28]) from S.tail.tail) et eu Z F
 have HO := (Z.ext w S.ext).ok F
 have MO := Z.m F
 have rq2 := rq.ext w S.ext
 have S00 := S
 clear S
 have S := Hs.start w1
 obtain ⟨hB, hnm⟩ : ∃ x, x = h := ⟨_, rfl⟩; subst hnm
 have hlen := len_c et
 have ck : ∀ {i e : Int}, PaC (p.wt tabs) q false i e → PaC p q false i e := fun h => (paC_c et).1 h
 have hPO : PO (p.wt tabs) ↔ PO p := PO_c et
 have hPA : PartOk (p.wt tabs) q ↔ PartOk p q := part_c et
 have hPL : pltV (p.wt tabs) q = pltV p q := pltV_c et
 have hBD : ∀ k, bestD (p.wt tabs) q k = bestD p q k := fun k => bestD_c et
 all_goals (repeat' (first | (refine K_region (id := 2) ?_; refine lH S ?_; refine mv ?_)))
 (refine KO_fn rfl rfl rfl rfl rfl ((fault_ok S.wf pv p HO MO vq q rq2 (by omega)).mono ?_); rintro _ h ⟨i, e, rfl, hk, x⟩) <;> (replace S := S.join0 x; clear x; refine mv ?_; refine KO_nil ?_)
 have hpo := hk.part
 have hsl := srv_len (pl := pltV p q)
 rw [pltV_len] at hsl
 all_goals (repeat' (first | refine K_seq ?_ | (refine K_region (id := 3) ?_; refine mv ?_; refine KO_nil ?_) | (refine K_region (id := 4) ?_; refine mv ?_; refine mv ?_; refine KO_nil ?_)))
 skip
 (repeat (refine K_seq ?_)); first | refine K_join (σ := Value × List Row_ × Int × Int × Int) (fun (vw, rows, e2, m, ld) h' => Hs hB h' [.sl vw 25 1 eRow rows, ownR slRow rows] ∧ WtW p q n e2 rows m ld) (fun (vw, rows, e2, m, ld) => [(1, vq), (2, .int .i64 n), (3, .pointer (some ⟨b3, 0, none⟩)), (7, .pointer (some ⟨b, 0, none⟩)), (8, vl_), (9, .int .i64 e2), (10, vw), (11, .int .i64 m), (12, .int .i64 ld)]) ?_ ?_
 ·have hnil : ∀ {h2 : AH} {rs : List Rs} (S2 : Hs hB h2 rs), Hs hB h2 [.sl (.slice none 0 0) 25 1 eRow [], ownR slRow []] := fun S2 => Hs.nilS (Hs.owNil (f := slRow) S2.drop)
  all_goals (repeat' (first | refine K_seq ?_ | refine k_cond rfl ?_ | refine K_skip ?_ | (refine K_region (id := 5) ?_; refine mv ?_; (first | (refine cS ?_ ?_ <;> intro hc)) <;> (refine KO_nil ?_))))
  ·obtain ⟨hP, hQ⟩ := hpo.1 (by assumption)
   all_goals (repeat' (first | (refine K_region (id := 6) ?_; refine lH S ?_; refine mv ?_; refine mv ?_)))
   (refine KO_fn rfl rfl rfl rfl rfl ((rLoad_ok S.wf pv p (HO.ext w1 S.ext) hP vq q (rq2.ext w1 S.ext) hQ n).mono ?_); rintro _ h ⟨rfl, x⟩) <;> (replace S := S.join0 x; clear x; refine mv ?_; refine KO_nil ?_)
   all_goals (repeat' (first | refine K_seq ?_ | refine k_cond rfl ?_ | refine k_block ?_ | (refine K_region (id := 8) ?_; refine mv ?_; (first | (refine cS ?_ ?_ <;> intro hc)) <;> (refine mv ?_; refine KO_nil ?_)) | (refine K_region (id := 9) ?_; refine mv ?_; refine KO_nil ?_)))
   ·exact ⟨(.slice none 0 0, [], 2, 0, _), ⟨hnil S, .inr ⟨hP, hQ, rfl, .inl ⟨by assumption, rfl, rfl, rfl⟩⟩⟩, ((by repeat (first | exact Ks.le_nil _ | refine Ks.le_cons rfl ?_)))⟩
   all_goals (repeat' (first | refine k_cond rfl ?_ | (refine K_region (id := 10) ?_; refine mv ?_; (first | (refine cS ?_ ?_ <;> intro hc)) <;> (refine mv ?_; refine KO_nil ?_)) | (refine K_region (id := 11) ?_; refine mv ?_; refine KO_nil ?_)))
   ·exact ⟨(.slice none 0 0, [], 8, 0, _), ⟨hnil S, .inr ⟨hP, hQ, rfl, .inr (.inl ⟨by omega, rfl, rfl, rfl⟩)⟩⟩, ((by repeat (first | exact Ks.le_nil _ | refine Ks.le_cons rfl ?_)))⟩
   obtain ⟨k, rfl⟩ := Int.eq_ofNat_of_zero_le (show 0 ≤ n by omega)
   all_goals (repeat' (first | (refine K_region (id := 7) ?_; refine lH S ?_; refine mv ?_; refine mv ?_)))
   (refine KO_fn rfl rfl rfl rfl rfl ((rWaiters_ok S.wf pv p (HO.ext w1 S.ext) hP vq q (rq2.ext w1 S.ext) hQ (by omega) k (by omega)).mono ?_); rintro _ h ⟨vo, rows, rfl, x, r1, r2⟩) <;> (replace S := S.join2 x; clear x; refine mv ?_; refine vl ?_; refine vl ?_; refine mv ?_; refine mv ?_; refine KO_nil ?_)
   all_goals (repeat' (fail))
   exact ⟨(vo, rows, e, (bestD p q k).2, _), ⟨S, .inr ⟨hP, hQ, rfl, .inr (.inr ⟨k, rfl, by omega, by omega, by assumption, r1, rfl, r2⟩)⟩⟩, ((by repeat (first | exact Ks.le_nil _ | refine Ks.le_cons rfl ?_)))⟩
  ·have hne : ¬ e = 0 := by assumption
   exact ⟨(.slice none 0 0, [], e, 0, 0), ⟨hnil S, .inl ⟨fun z => hne (hpo.2 z), ⟨i, hk⟩, hne, rfl, rfl, rfl⟩⟩, ((by repeat (first | exact Ks.le_nil _ | refine Ks.le_cons rfl ?_)))⟩
 clear S
 rintro ⟨vw, rows, e2, m, ld⟩ h ⟨S, hW⟩
 skip
 all_goals (repeat' (first | refine K_seq ?_ | (refine K_region (id := 12) ?_; refine lH S ?_; refine mv ?_; refine mv ?_)))
 (refine KO_fn rfl rfl rfl rfl rfl ((waiters_ok S.wf v' (p.wt tabs) (HC.ext w1 S.ext) vl_ q (rl.ext w1 S.ext) (by omega) n).mono ?_); rintro _ h ⟨vo, rows', m', e', rfl, x, hG⟩) <;> (replace S := S.join2 x; clear x; refine mv ?_; refine vl ?_; refine vl ?_; refine vl ?_; refine mv ?_; refine mv ?_; refine mv ?_; refine KO_nil ?_)
 rw [hPO, hPA, hPL] at hG
 have key : e' = e2 ∧ m' = m ∧ rows'.map (·.r) = rows.map (·.r) ∧ rows'.length ≤ 9 ∧ ∀ i, i < rows'.length → (rows'.getD i default).r.length ≤ 1000000 := by
  rcases hW with ⟨z1, ⟨i1, z2⟩, -, rfl, rfl, -⟩ | ⟨z1, z2, -, z3⟩
  ·rcases hG with ⟨-, ⟨i2, y2⟩, rfl, rfl⟩ | ⟨y1, y2, -⟩
   ·exact ⟨(ck y2).uniq z2, rfl, rfl, by simp, fun i hi => by simp at hi⟩
   ·exact absurd ⟨y1, y2⟩ z1
  ·rcases hG with ⟨y1, -⟩ | ⟨-, -, y3⟩
   ·exact absurd ⟨z1, z2⟩ y1
   rcases z3 with ⟨a1, rfl, rfl, rfl⟩ | ⟨a1, rfl, rfl, rfl⟩ | ⟨k, rfl, a1, a2, rfl, a3, rfl, a4⟩
   ·rcases y3 with ⟨b1, rfl, rfl, rfl⟩ | ⟨b1, b2, rfl, rfl, rfl⟩ | ⟨k, rfl, b1, b2, -⟩
    ·exact ⟨rfl, rfl, rfl, by simp, fun i hi => by simp at hi⟩
    ·omega
    ·omega
   ·rcases y3 with ⟨b1, rfl, rfl, rfl⟩ | ⟨b1, b2, rfl, rfl, rfl⟩ | ⟨k, rfl, b1, b2, -⟩
    ·omega
    ·exact ⟨rfl, rfl, rfl, by simp, fun i hi => by simp at hi⟩
    ·omega
   ·rcases y3 with ⟨b1, rfl, rfl, rfl⟩ | ⟨b1, b2, rfl, rfl, rfl⟩ | ⟨k', hk', b1, b2, b3, rfl, b4, rfl, b5⟩
    ·omega
    ·omega
    ·obtain rfl : k = k' := by omega
     rw [hBD] at b5 ⊢
     have hr : ∀ i, i < k → (rows'.getD i default).r = (rows.getD i default).r := fun i hi => by rw [b5 i hi, a4 i hi]
     refine ⟨rfl, rfl, eq_getD (by simp; omega) fun i hi => ?_, by omega, fun i hi => ?_⟩
     ·simp at hi
      rw [map_getD (f := fun x : Row_ => x.r) (by omega), map_getD (f := fun x : Row_ => x.r) (by omega)]
      exact hr i (by omega)
     ·rw [b5 i (by omega)]
      exact Nat.le_trans divL_len (by omega)
 obtain ⟨rfl, rfl, hrr, hr9, hrl⟩ := key
 have hrl2 : rows.length = rows'.length := by have := congrArg List.length hrr; simpa using this.symm
 replace S : Hs hB h [.sl vo 25 1 eRow rows', ownR slRow rows', .sl vw 25 1 eRow rows, ownR slRow rows] := S
 all_goals (repeat' (first | refine K_seq ?_ | (refine K_region (id := 13) ?_; refine mv ?_; refine mv ?_)))
 (refine KO_fn rfl rfl rfl rfl rfl ((sameLists_ok S.wf vo vw rows' rows (Rd.of_sl S .here) (Rd.of_sl S (.there (.there .here))) (fun i hi => ownRow_rd S (.there .here) hi) (fun i hi => ownRow_rd S (.there (.there (.there .here))) hi) (by omega) (by omega) hrr hrl).mono ?_); rintro _ h ⟨rfl, x⟩) <;> (replace S := S.join0 x; clear x; refine mv ?_; refine mv ?_; refine mv ?_; (first | (refine cT ?_)) <;> (refine vl ?_; refine mv ?_; refine mv ?_; refine mv ?_; (first | (refine cT ?_)) <;> (refine vl ?_; refine mv ?_; (first | (refine lH S ?_)); refine mv ?_; refine mv ?_; (skip))))
 have hld : ∀ ld', (n < 1 → ld' = 0) → (¬ (PO (p.wt tabs) ∧ PartOk (p.wt tabs) q) → ld' = 0) → (1 ≤ n → PO (p.wt tabs) → PartOk (p.wt tabs) q → ld' = ldN (pltV (p.wt tabs) q) n) → ld = ld' := fun ld' l1 l2 l3 => by
  rw [hPO, hPA] at l2
  rw [hPO, hPA, hPL] at l3
  rcases hW with ⟨z1, -, -, -, -, rfl⟩ | ⟨z1, z2, rfl, -⟩
  ·exact (l2 z1).symm
  ·by_cases hn1 : n < 1
   ·rw [if_pos hn1]; exact (l1 hn1).symm
   ·rw [if_neg hn1]; exact (l3 (by omega) z1 z2).symm
 (refine KO_fn rfl rfl rfl rfl rfl ((sload_ok S.wf v' (p.wt tabs) (HC.ext w1 S.ext) vl_ q (rl.ext w1 S.ext) (by omega) n).mono ?_); rintro _ h ⟨ld', rfl, l1, l2, l3, x⟩) <;> (replace S := S.join0 x; clear x; obtain rfl := hld _ l1 l2 l3; refine mv ?_; (first | (refine cT ?_)) <;> (refine vl ?_; refine mv ?_; (first | (refine lH S ?_)); (first | (refine lH S ?_)); refine mv ?_; refine mv ?_; (skip)))
 all_goals (repeat' (fail))
 (refine KO_fn rfl rfl rfl rfl rfl ((lsame_ok S.wf v' pv (p.wt tabs) p (HC.ext w1 S.ext) (HO.ext w1 S.ext) ⟨et, rfl, rfl, rfl, rfl⟩ vl_ vq q q (rl.ext w1 S.ext) (rq2.ext w1 S.ext) rfl (by omega)).mono ?_); rintro _ h ⟨rfl, x⟩) <;> (replace S := S.join0 x; clear x; refine vl ?_; refine mv ?_; refine KO_nil ?_)
 all_goals (repeat' (fail))
 refine K_ret ⟨_, rfl, ?_⟩
 exact ⟨rfl, (S00.join S).drop⟩
theorem serviceWaiters_true {h0 : AH} (w : WfH h0) (pv : PbV) (p : Pb) (Z : PbZ h0 pv p) (sq : SlV) (q : List Int) (rq : RdL h0 sq.val 1 eI q) (n : Int) :
 Fn Tryz.prog Xh 3 [pv.val, sq.val, .int .i64 n] h0 (fun u _ => u = .bool true) := by
 have S := Hs.start w
 unfold PbV.val
 refine Fn_K (by first | rfl) Tryz.func3 rfl rfl ?_
 all_goals (repeat' (first | refine K_seq ?_ | (refine K_region (id := 0) ?_; (refine bx S ?_; clear S; intro b h S); refine mv ?_; refine KO_nil ?_)))
 obtain ⟨b3, hnm⟩ : ∃ x, x = b := ⟨_, rfl⟩; subst hnm
 all_goals (repeat' (first | (refine K_region (id := 1) ?_; refine lB S rfl rfl ?_; refine mv ?_; (refine one 1 S ?_; clear S; intro u h S))))
 have ru : RdL h u 1 eRow [⟨sq, q⟩] := (show RdL h u 1 eRaw [[sq.val]] from Rd.of_sl S .here)
 have hone : ∀ i, i < [(⟨sq, q⟩ : Row_)].length → RdL h ([(⟨sq, q⟩ : Row_)].getD i default).sv.val 1 eI ([(⟨sq, q⟩ : Row_)].getD i default).r := fun i hi => by
  obtain rfl : i = 0 := by simp at hi; exact hi
  exact rq.ext w S.ext
 (refine KO_fn rfl rfl rfl rfl rfl ((lfew_ok S.wf pv p (Z.ext w S.ext) u [⟨sq, q⟩] ru hone (by simp)).mono ?_); rintro _ h ⟨⟨rfl, z⟩ | ⟨rfl, z⟩, x⟩) <;> (replace S := S.join0 x; clear x; refine vl ?_; refine mv ?_; (first | refine off ?_ | refine mv ?_); (first | refine off ?_ | (first | (refine cS ?_ ?_ <;> intro hc))) <;> ((first | refine off ?_ | refine mv ?_); (first | refine off ?_ | refine mv ?_); (first | refine off ?_ | (first | (refine cS ?_ ?_ <;> intro hc))) <;> ((first | refine off ?_ | refine vl ?_); refine vl ?_; refine mv ?_; (first | refine off ?_ | (refine lB S rfl rfl ?_)); (first | refine off ?_ | refine mv ?_); (first | refine off ?_ | refine mv ?_); (first | (refine off ?_; refine vl ?_; refine mv ?_; (skip)) | skip))))
 all_goals (try ((refine KO_fn rfl rfl rfl rfl rfl ((lwaiters_ok S.wf pv p (Z.ext w S.ext) z.1 z.2.1 sq.val q (rq.ext w S.ext) (z.2.2 0 (by simp)) n (by omega)).mono ?_); rintro _ h ⟨rfl, x⟩) <;> (replace S := S.join0 x; clear x; refine vl ?_; refine mv ?_; (skip))))
 all_goals (try ((refine KO_fn rfl rfl rfl rfl rfl ((awake_okS S.wf).mono ?_); rintro _ h ⟨rfl, x⟩) <;> (replace S := S.join0 x; clear x; refine vl ?_; refine mv ?_; refine KO_nil ?_)))
 all_goals (all_goals (repeat' (fail)))
 all_goals (refine K_ret ⟨_, rfl, ?_⟩)
 all_goals rfl
end Go.Proofs.Xx
namespace Go.Proofs.Xx
open Go Go.RowKit Go.Proofs
set_option linter.unusedSimpArgs false
set_option linter.unusedVariables false
set_option linter.unusedSectionVars false
set_option maxRecDepth 100000
theorem serviceWaiters_core [Flag] (h : AH) (us : List Value) (w : WfH h) (a : ArgsR Tryz.prog h Tryz.f3.params.toList us) : Fn Tryz.prog Xh 3 us h (fun x _ => x = .bool true) := by
 rw [show Tryz.f3.params.toList = [28, 25, 3] by kernel_rfl] at a
 obtain ⟨n0, r0, us, rfl, a0, a⟩ := a.cons_inv
 obtain ⟨n1, r1, us, rfl, a1, a⟩ := a.cons_inv
 obtain ⟨n2, r2, us, rfl, a2, a⟩ := a.cons_inv
 obtain rfl := a.nil_inv
 obtain ⟨v, p, rfl, Z⟩ := a0.prob1
 obtain ⟨sq, q, rfl, rq, lq, cq, bq⟩ := a1.intsM
 obtain ⟨n, rfl, hn⟩ := a2.int64
 exact serviceWaiters_true w v p Z sq q rq n
end Go.Proofs.Xx
namespace Go.Proofs.Xx
set_option linter.unusedSectionVars false
set_option linter.unusedVariables false
set_option linter.unusedSimpArgs false
open Go Go.RowKit Go.Proofs
def KN : List Nat := [8, 254, 142, 295, 293, 284, 189]
theorem Xh_none (f : FuncId) (hk : KN.all (fun n => !Nat.beq f n) = true) (us : List Value) (h : AH) : Xh f us h = none := by
 have e : ∀ n, n ∈ KN → Nat.beq f n = false := fun n q => by have := List.all_eq_true.1 hk n q; simpa using this
 unfold Xh withKnown Xa withGrow withDigits Xd withIns X0 withOvl withCmp externNoEscape
 simp only [e 8 (by decide), e 254 (by decide), e 142 (by decide), e 295 (by decide), e 293 (by decide), e 284 (by decide), e 189 (by decide)]
theorem max_there {W : World} (h : W.ShapedOpen Tryz.prog) : 1 < W.heap.size ∧ ∃ m el fr, W.heap[0]? = some (.cells #[.int .i64 m] el fr) := by
 have h0 : ((begin Tryz.prog (fun _ _ => 0) default).world.heap[0]?).bind Obj.row? = some (#[.int .i64 0], 3) := by kernel_rfl
 obtain ⟨m, hm⟩ := cell_of_shapedOpen_int h (g := 0) (t := 3) (of_decide_eq_true (by kernel_rfl)) h0 rfl (by kernel_rfl) (by kernel_rfl) Tryz.underlying3
 obtain ⟨cs, hh, hs, -⟩ := h.1 0 _ 3 (of_decide_eq_true (by kernel_rfl)) h0
 refine ⟨?_, m, 3, (0, 0), ?_⟩
 ·have h1 : (((begin Tryz.prog (fun _ _ => 0) default).world.heap[1]?).bind Obj.row?).isSome = true := by kernel_rfl
  obtain ⟨⟨z, t⟩, h1⟩ := Option.isSome_iff_exists.1 h1
  obtain ⟨cs, hh, -⟩ := h.1 1 z t (of_decide_eq_true (by kernel_rfl)) h1
  exact (Array.getElem?_eq_some_iff.1 hh).1
 ·rw [hh]
  have : cs = #[.int .i64 m] := by
   simp only [World.cell?, hh] at hm
   obtain ⟨l⟩ := cs
   match l, hs, hm with
   | [x], _, hm => simp at hm; rw [hm]
   | [], hs, _ => cases hs
   | _ :: _ :: _, hs, _ => simp at hs
  rw [this]
theorem cells_there {W : World} (h : W.ShapedOpen Tryz.prog) : ∃ (k : Nat) (cc : Array Value) (el : TypeId) (fr : Nat × Nat), W.heap[k]? = some (.cells cc el fr) := by
 obtain ⟨-, m, el, fr, q⟩ := max_there h
 exact ⟨0, _, el, fr, q⟩
end Go.Proofs.Xx
namespace Go.Proofs.Xx
set_option linter.unusedSectionVars false
set_option linter.unusedVariables false
set_option linter.unusedSimpArgs false
open Go Go.RowKit Go.Proofs
theorem gPowType : (Tryz.prog.globals[1]?).map (·.type) = some 272 := by kernel_rfl
theorem glob_pow [Flag] {W : World} {x y : String × DataW Unit} {rest : List (String × DataW Unit)} (h : laidMet Tryz.prog (x :: y :: ("internal/strconv.uint64pow10", YtjgpiabklllldaaGreatDoor.Rows.laid_internal_strconv_uint64pow10) :: rest) W) (hS : W.ShapedOpen Tryz.prog) :
 Glob.ok W.heap.size W.heap := by
 refine ⟨(max_there hS).1, (max_there hS).2, fun _ => ?_⟩
 have t : Lib.TabIs Tryz.prog W "internal/strconv.uint64pow10" .u64 Lib.pow10Tab :=
  Lib.tabIs_of_head gPow gPowType (n := 20) (e := 206) (by kernel_rfl) (by kernel_rfl) (by kernel_rfl) (by kernel_rfl) (laidMet.tail (laidMet.tail h))
 unfold Lib.TabIs World.var? at t
 rw [gPow] at t
 simp only [Option.bind_some] at t
 split at t
 ·rename_i cs el fr hc
  cases t
  exact ⟨el, fr, hc⟩
 ·cases t
end Go.Proofs.Xx
