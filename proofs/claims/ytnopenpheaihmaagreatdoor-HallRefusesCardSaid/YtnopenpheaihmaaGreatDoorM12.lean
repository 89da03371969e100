/-
  Valid tables and halls that are made of codes.
-/
import Derived.Test.YtnopenpheaihmaaGreatDoorM11
import Derived.Test.YtnopenpheaihmaaGreatDoorM9
import Derived.Test.YtnopenpheaihmaaGreatDoorM8

namespace Go.Proofs.Xx
open Go Go.Proofs
set_option linter.unusedSimpArgs false
set_option linter.unusedVariables false
set_option maxRecDepth 100000

structure MadeT (c : Cod) (nm : List UInt8) (t : Tab) : Prop where
  name : t.name = nm
  shape : t.shape = 1 + (c.s : Int) % 4
  ts : TabS t
  opn : OpnOk (tsize t) t.opn
  len : t.opn.length ≤ 24
  xy : t.X = 0 ∧ t.Y = 0
  round : (c.s : Int) % 4 = 0 → t.A = 1 + (c.a : Int) % 24 ∧ t.B = 0
def SizeOk (c : Cod) (A B : Int) (n : Nat) : Prop := sizeOf1 (1 + (c.s : Int) % 4) A B = n ∧ 0 < n ∧ n ≤ 24 ∧ ((c.s : Int) % 4 = 0 → A = 1 + (c.a : Int) % 24 ∧ B = 0)

theorem made_ok {h0 : AH} (w : WfH h0) (c : Cod) (A : CodA h0 c) (nm : List UInt8) : Fn Tryz.prog Xh 82 [codV c, str nm] h0 (fun r h' => ∃ t, r = tabV t ∧ MadeT c nm t ∧ Hs h0 h' [.rd t.ov 1 eI t.opn]) := by
  have S := Hs.start w
  obtain ⟨z1, z2, z3⟩ := A.b1
  have hrd := A.rd
  refine Fn_K rfl Tryz.func82 rfl rfl ?_
  (repeat (refine K_seq ?_)); refine K_region (id := 0) ?_
  refine bx S ?_; clear S; intro bc h S; refine al S ?_; clear S; intro br h S; refine KO_nil ?_
  (repeat (refine K_seq ?_)); refine K_region (id := 1) ?_; refine mv ?_; (first | refine vl ?_ | refine fB S ?_ | refine fS S rfl rfl ?_ | refine fA ?_); (first | refine lB S rfl rfl ?_ | refine lES2 S rfl rfl ?_ | refine lEB S ?_ | refine lH S ?_); refine rmU ?_; (first | refine aU ?_ | refine vl ?_); refine vl ?_; (refine al S ?_; clear S; intro b h S); (first | (refine sB S rfl rfl ?_; clear S; intro h S) | (refine sE2 S rfl rfl ?_; clear S; intro h S)); refine KO_nil ?_
  obtain ⟨bt, hnm⟩ : ∃ x, x = b := ⟨_, rfl⟩; subst hnm
  (repeat (refine K_seq ?_)); refine K_region (id := 2) ?_; refine mv ?_; refine KO_nil ?_
  refine K_cut (σ := Int × Int × Nat) (fun (a, b, n) h' => Hs h0 h' [.blk bt [str nm, .int .u8 (1 + (c.s : Int) % 4), .int .i64 a, .int .i64 b, .slice none 0 0, .int .i64 0, .int .i64 0] 25, .blk br [str [], .int .u8 0, .int .i64 0, .int .i64 0, .slice none 0 0, .int .i64 0, .int .i64 0] 25, .blk bc (eC c) 50] ∧ SizeOk c a b n) (fun (a, b, n) => [(2, .pointer (some ⟨bc, 0, none⟩)), (4, .pointer (some ⟨br, 0, none⟩)), (5, .pointer (some ⟨bt, 0, none⟩)), (6, .int .i64 n)]) ?_ ?_
  · all_goals (repeat' (first | refine K_seq ?_ | refine k_cond rfl ?_ | refine K_skip ?_ | refine K_exit ?_ | refine k_block ?_ | refine K_scope ?_ | (refine K_region (id := 3) ?_; (first | refine vl ?_ | refine fB S ?_ | refine fS S rfl rfl ?_ | refine fA ?_); (first | refine lB S rfl rfl ?_ | refine lES2 S rfl rfl ?_ | refine lEB S ?_ | refine lH S ?_); refine KO_nil ?_) | (refine K_region (id := 4) ?_; (first | refine vl ?_ | refine fB S ?_ | refine fS S rfl rfl ?_ | refine fA ?_); (first | refine lB S rfl rfl ?_ | refine lES2 S rfl rfl ?_ | refine lEB S ?_ | refine lH S ?_); refine rmU ?_; (first | refine cI ?_ | refine vl ?_); (first | refine ad ?_ | refine vl ?_); (first | refine vl ?_ | refine fB S ?_ | refine fS S rfl rfl ?_ | refine fA ?_); (first | (refine sB S rfl rfl ?_; clear S; intro h S) | (refine sE2 S rfl rfl ?_; clear S; intro h S)); refine KO_nil ?_) | (refine K_region (id := 5) ?_; (first | refine vl ?_ | refine fB S ?_ | refine fS S rfl rfl ?_ | refine fA ?_); (first | refine lB S rfl rfl ?_ | refine lES2 S rfl rfl ?_ | refine lEB S ?_ | refine lH S ?_); (first | refine cI ?_ | refine vl ?_); (first | refine vl ?_ | refine fB S ?_ | refine fS S rfl rfl ?_ | refine fA ?_); (first | refine lB S rfl rfl ?_ | refine lES2 S rfl rfl ?_ | refine lEB S ?_ | refine lH S ?_); (first | refine ad ?_ | refine vl ?_); (first | refine rm ?_ | refine vl ?_); (first | refine vl ?_ | refine fB S ?_ | refine fS S rfl rfl ?_ | refine fA ?_); (first | (refine sB S rfl rfl ?_; clear S; intro h S) | (refine sE2 S rfl rfl ?_; clear S; intro h S)); refine KO_nil ?_) | (refine K_region (id := 6) ?_; (first | refine vl ?_ | refine fB S ?_ | refine fS S rfl rfl ?_ | refine fA ?_); (first | refine lB S rfl rfl ?_ | refine lES2 S rfl rfl ?_ | refine lEB S ?_ | refine lH S ?_); refine mv ?_; refine KO_nil ?_) | (refine K_region (id := 7) ?_; (first | refine cT ?_ | refine cF ?_ | (refine cS ?_ ?_ <;> intro hc)) <;> (refine mv ?_; refine KO_nil ?_)) | (refine K_region (id := 8) ?_; (first | refine vl ?_ | refine fB S ?_ | refine fS S rfl rfl ?_ | refine fA ?_); (first | refine lB S rfl rfl ?_ | refine lES2 S rfl rfl ?_ | refine lEB S ?_ | refine lH S ?_); refine rmU ?_; (first | refine cI ?_ | refine vl ?_); (first | refine ad ?_ | refine vl ?_); (first | refine vl ?_ | refine fB S ?_ | refine fS S rfl rfl ?_ | refine fA ?_); (first | (refine sB S rfl rfl ?_; clear S; intro h S) | (refine sE2 S rfl rfl ?_; clear S; intro h S)); refine KO_nil ?_) | (refine K_region (id := 9) ?_; (first | refine vl ?_ | refine fB S ?_ | refine fS S rfl rfl ?_ | refine fA ?_); (first | refine lB S rfl rfl ?_ | refine lES2 S rfl rfl ?_ | refine lEB S ?_ | refine lH S ?_); refine mv ?_; refine KO_nil ?_) | (refine K_region (id := 10) ?_; (first | refine cT ?_ | refine cF ?_ | (refine cS ?_ ?_ <;> intro hc)) <;> (refine mv ?_; refine KO_nil ?_)) | (refine K_region (id := 12) ?_; (first | refine vl ?_ | refine fB S ?_ | refine fS S rfl rfl ?_ | refine fA ?_); (first | refine lB S rfl rfl ?_ | refine lES2 S rfl rfl ?_ | refine lEB S ?_ | refine lH S ?_); (first | refine ml ?_ | refine vl ?_); (first | refine vl ?_ | refine fB S ?_ | refine fS S rfl rfl ?_ | refine fA ?_); (first | refine lB S rfl rfl ?_ | refine lES2 S rfl rfl ?_ | refine lEB S ?_ | refine lH S ?_); (first | refine ad ?_ | refine vl ?_); refine mv ?_; refine KO_nil ?_) | (refine K_region (id := 13) ?_; (first | refine cT ?_ | refine cF ?_ | (refine cS ?_ ?_ <;> intro hc)) <;> (refine mv ?_; refine KO_nil ?_)) | (refine K_region (id := 15) ?_; (first | refine vl ?_ | refine fB S ?_ | refine fS S rfl rfl ?_ | refine fA ?_); (first | refine lB S rfl rfl ?_ | refine lES2 S rfl rfl ?_ | refine lEB S ?_ | refine lH S ?_); (first | refine vl ?_ | refine fB S ?_ | refine fS S rfl rfl ?_ | refine fA ?_); (first | refine lB S rfl rfl ?_ | refine lES2 S rfl rfl ?_ | refine lEB S ?_ | refine lH S ?_); (first | refine ml ?_ | refine vl ?_); (first | refine ad ?_ | refine vl ?_); refine mv ?_; refine KO_nil ?_)))
    · refine ⟨(1 + (c.a : Int) % 24, 0, 1 + c.a % 24), ⟨S, ?_⟩, ((by repeat (first | exact Ks.le_nil _ | refine Ks.le_cons rfl ?_ | refine Ks.le_int ?_)))⟩
      unfold SizeOk sizeOf1 roundSize; (repeat' split) <;> omega
    · refine K_drawX (id := 11) [(6, (0, 1)), (8, (0, 1))] [some (bc), none] ?_; refine KX_cons ?_; (first | (refine vl ?_ <;> refine KO_nil ⟨⟨by (first | exact True.intro | exact Or.inl rfl | exact Or.inr rfl | exact Or.inr (congrArg some (blkOf_elA _ _ _ _)) | exact ⟨Or.inl rfl, rfl⟩ | exact ⟨Or.inr rfl, rfl⟩), rfl⟩, ?_⟩) | (refine fB S ?_ <;> refine KO_nil ⟨⟨by (first | exact True.intro | exact Or.inl rfl | exact Or.inr rfl | exact Or.inr (congrArg some (blkOf_elA _ _ _ _)) | exact ⟨Or.inl rfl, rfl⟩ | exact ⟨Or.inr rfl, rfl⟩), rfl⟩, ?_⟩) | (refine fS S rfl rfl ?_ <;> refine KO_nil ⟨⟨by (first | exact True.intro | exact Or.inl rfl | exact Or.inr rfl | exact Or.inr (congrArg some (blkOf_elA _ _ _ _)) | exact ⟨Or.inl rfl, rfl⟩ | exact ⟨Or.inr rfl, rfl⟩), rfl⟩, ?_⟩) | (refine fA ?_ <;> refine KO_nil ⟨⟨by (first | exact True.intro | exact Or.inl rfl | exact Or.inr rfl | exact Or.inr (congrArg some (blkOf_elA _ _ _ _)) | exact ⟨Or.inl rfl, rfl⟩ | exact ⟨Or.inr rfl, rfl⟩), rfl⟩, ?_⟩)); refine KX_cons ?_; (first | (refine lB S rfl rfl ?_ <;> refine KO_nil ⟨⟨by (first | exact True.intro | exact Or.inl rfl | exact Or.inr rfl | exact Or.inr (congrArg some (blkOf_elA _ _ _ _)) | exact ⟨Or.inl rfl, rfl⟩ | exact ⟨Or.inr rfl, rfl⟩), rfl⟩, ?_⟩) | (refine lES2 S rfl rfl ?_ <;> refine KO_nil ⟨⟨by (first | exact True.intro | exact Or.inl rfl | exact Or.inr rfl | exact Or.inr (congrArg some (blkOf_elA _ _ _ _)) | exact ⟨Or.inl rfl, rfl⟩ | exact ⟨Or.inr rfl, rfl⟩), rfl⟩, ?_⟩) | (refine lEB S ?_ <;> refine KO_nil ⟨⟨by (first | exact True.intro | exact Or.inl rfl | exact Or.inr rfl | exact Or.inr (congrArg some (blkOf_elA _ _ _ _)) | exact ⟨Or.inl rfl, rfl⟩ | exact ⟨Or.inr rfl, rfl⟩), rfl⟩, ?_⟩) | (refine lH S ?_ <;> refine KO_nil ⟨⟨by (first | exact True.intro | exact Or.inl rfl | exact Or.inr rfl | exact Or.inr (congrArg some (blkOf_elA _ _ _ _)) | exact ⟨Or.inl rfl, rfl⟩ | exact ⟨Or.inr rfl, rfl⟩), rfl⟩, ?_⟩)); refine KX_cons ?_; (first | (refine rmU ?_ <;> refine KO_nil ⟨⟨by (first | exact True.intro | exact Or.inl rfl | exact Or.inr rfl | exact Or.inr (congrArg some (blkOf_elA _ _ _ _)) | exact ⟨Or.inl rfl, rfl⟩ | exact ⟨Or.inr rfl, rfl⟩), rfl⟩, ?_⟩)); refine KX_cons ?_; (first | (refine cI ?_ <;> refine KO_nil ⟨⟨by (first | exact True.intro | exact Or.inl rfl | exact Or.inr rfl | exact Or.inr (congrArg some (blkOf_elA _ _ _ _)) | exact ⟨Or.inl rfl, rfl⟩ | exact ⟨Or.inr rfl, rfl⟩), rfl⟩, ?_⟩) | (refine vl ?_ <;> refine KO_nil ⟨⟨by (first | exact True.intro | exact Or.inl rfl | exact Or.inr rfl | exact Or.inr (congrArg some (blkOf_elA _ _ _ _)) | exact ⟨Or.inl rfl, rfl⟩ | exact ⟨Or.inr rfl, rfl⟩), rfl⟩, ?_⟩)); refine KX_cons ?_; (first | (refine ad ?_ <;> refine KO_nil ⟨⟨by (first | exact True.intro | exact Or.inl rfl | exact Or.inr rfl | exact Or.inr (congrArg some (blkOf_elA _ _ _ _)) | exact ⟨Or.inl rfl, rfl⟩ | exact ⟨Or.inr rfl, rfl⟩), rfl⟩, ?_⟩) | (refine vl ?_ <;> refine KO_nil ⟨⟨by (first | exact True.intro | exact Or.inl rfl | exact Or.inr rfl | exact Or.inr (congrArg some (blkOf_elA _ _ _ _)) | exact ⟨Or.inl rfl, rfl⟩ | exact ⟨Or.inr rfl, rfl⟩), rfl⟩, ?_⟩)); refine KX_cons ?_; (first | (refine vl ?_ <;> refine KO_nil ⟨⟨by (first | exact True.intro | exact Or.inl rfl | exact Or.inr rfl | exact Or.inr (congrArg some (blkOf_elA _ _ _ _)) | exact ⟨Or.inl rfl, rfl⟩ | exact ⟨Or.inr rfl, rfl⟩), rfl⟩, ?_⟩) | (refine fB S ?_ <;> refine KO_nil ⟨⟨by (first | exact True.intro | exact Or.inl rfl | exact Or.inr rfl | exact Or.inr (congrArg some (blkOf_elA _ _ _ _)) | exact ⟨Or.inl rfl, rfl⟩ | exact ⟨Or.inr rfl, rfl⟩), rfl⟩, ?_⟩) | (refine fS S rfl rfl ?_ <;> refine KO_nil ⟨⟨by (first | exact True.intro | exact Or.inl rfl | exact Or.inr rfl | exact Or.inr (congrArg some (blkOf_elA _ _ _ _)) | exact ⟨Or.inl rfl, rfl⟩ | exact ⟨Or.inr rfl, rfl⟩), rfl⟩, ?_⟩) | (refine fA ?_ <;> refine KO_nil ⟨⟨by (first | exact True.intro | exact Or.inl rfl | exact Or.inr rfl | exact Or.inr (congrArg some (blkOf_elA _ _ _ _)) | exact ⟨Or.inl rfl, rfl⟩ | exact ⟨Or.inr rfl, rfl⟩), rfl⟩, ?_⟩)); refine KX_cons ?_; (first | (refine lB S rfl rfl ?_ <;> refine KO_nil ⟨⟨by (first | exact True.intro | exact Or.inl rfl | exact Or.inr rfl | exact Or.inr (congrArg some (blkOf_elA _ _ _ _)) | exact ⟨Or.inl rfl, rfl⟩ | exact ⟨Or.inr rfl, rfl⟩), rfl⟩, ?_⟩) | (refine lES2 S rfl rfl ?_ <;> refine KO_nil ⟨⟨by (first | exact True.intro | exact Or.inl rfl | exact Or.inr rfl | exact Or.inr (congrArg some (blkOf_elA _ _ _ _)) | exact ⟨Or.inl rfl, rfl⟩ | exact ⟨Or.inr rfl, rfl⟩), rfl⟩, ?_⟩) | (refine lEB S ?_ <;> refine KO_nil ⟨⟨by (first | exact True.intro | exact Or.inl rfl | exact Or.inr rfl | exact Or.inr (congrArg some (blkOf_elA _ _ _ _)) | exact ⟨Or.inl rfl, rfl⟩ | exact ⟨Or.inr rfl, rfl⟩), rfl⟩, ?_⟩) | (refine lH S ?_ <;> refine KO_nil ⟨⟨by (first | exact True.intro | exact Or.inl rfl | exact Or.inr rfl | exact Or.inr (congrArg some (blkOf_elA _ _ _ _)) | exact ⟨Or.inl rfl, rfl⟩ | exact ⟨Or.inr rfl, rfl⟩), rfl⟩, ?_⟩)); refine KX_cons ?_; (first | (refine rmU ?_ <;> refine KO_nil ⟨⟨by (first | exact True.intro | exact Or.inl rfl | exact Or.inr rfl | exact Or.inr (congrArg some (blkOf_elA _ _ _ _)) | exact ⟨Or.inl rfl, rfl⟩ | exact ⟨Or.inr rfl, rfl⟩), rfl⟩, ?_⟩)); refine KX_cons ?_; (first | (refine cI ?_ <;> refine KO_nil ⟨⟨by (first | exact True.intro | exact Or.inl rfl | exact Or.inr rfl | exact Or.inr (congrArg some (blkOf_elA _ _ _ _)) | exact ⟨Or.inl rfl, rfl⟩ | exact ⟨Or.inr rfl, rfl⟩), rfl⟩, ?_⟩) | (refine vl ?_ <;> refine KO_nil ⟨⟨by (first | exact True.intro | exact Or.inl rfl | exact Or.inr rfl | exact Or.inr (congrArg some (blkOf_elA _ _ _ _)) | exact ⟨Or.inl rfl, rfl⟩ | exact ⟨Or.inr rfl, rfl⟩), rfl⟩, ?_⟩)); refine KX_cons ?_; (first | (refine vl ?_ <;> refine KO_nil ⟨⟨by (first | exact True.intro | exact Or.inl rfl | exact Or.inr rfl | exact Or.inr (congrArg some (blkOf_elA _ _ _ _)) | exact ⟨Or.inl rfl, rfl⟩ | exact ⟨Or.inr rfl, rfl⟩), rfl⟩, ?_⟩) | (refine fB S ?_ <;> refine KO_nil ⟨⟨by (first | exact True.intro | exact Or.inl rfl | exact Or.inr rfl | exact Or.inr (congrArg some (blkOf_elA _ _ _ _)) | exact ⟨Or.inl rfl, rfl⟩ | exact ⟨Or.inr rfl, rfl⟩), rfl⟩, ?_⟩) | (refine fS S rfl rfl ?_ <;> refine KO_nil ⟨⟨by (first | exact True.intro | exact Or.inl rfl | exact Or.inr rfl | exact Or.inr (congrArg some (blkOf_elA _ _ _ _)) | exact ⟨Or.inl rfl, rfl⟩ | exact ⟨Or.inr rfl, rfl⟩), rfl⟩, ?_⟩) | (refine fA ?_ <;> refine KO_nil ⟨⟨by (first | exact True.intro | exact Or.inl rfl | exact Or.inr rfl | exact Or.inr (congrArg some (blkOf_elA _ _ _ _)) | exact ⟨Or.inl rfl, rfl⟩ | exact ⟨Or.inr rfl, rfl⟩), rfl⟩, ?_⟩)); refine KX_cons ?_; (first | ((refine sB S rfl rfl ?_; have S0 := S; clear S; intro h S); refine KO_nil ⟨⟨True.intro, ?_⟩, ?_⟩; (focus ((show keepsX _ _ _ _ _; simp only [keepsX]; (repeat' (first | exact True.intro | refine And.intro ?_ ?_)); all_goals (intro hw; first | exact True.intro | exact (S.gB).trans (S0.gB).symm | exact absurd hw (by decide +kernel))))); clear S0) | ((refine sE2 S rfl rfl ?_; have S0 := S; clear S; intro h S); refine KO_nil ⟨⟨True.intro, ?_⟩, ?_⟩; (focus ((show keepsX _ _ _ _ _; simp only [keepsX]; (repeat' (first | exact True.intro | refine And.intro ?_ ?_)); all_goals (intro hw; first | exact True.intro | exact (S.gB).trans (S0.gB).symm | exact absurd hw (by decide +kernel))))); clear S0)); refine KX_cons ?_; (first | (refine vl ?_ <;> refine KO_nil ⟨⟨by (first | exact True.intro | exact Or.inl rfl | exact Or.inr rfl | exact Or.inr (congrArg some (blkOf_elA _ _ _ _)) | exact ⟨Or.inl rfl, rfl⟩ | exact ⟨Or.inr rfl, rfl⟩), rfl⟩, ?_⟩) | (refine fB S ?_ <;> refine KO_nil ⟨⟨by (first | exact True.intro | exact Or.inl rfl | exact Or.inr rfl | exact Or.inr (congrArg some (blkOf_elA _ _ _ _)) | exact ⟨Or.inl rfl, rfl⟩ | exact ⟨Or.inr rfl, rfl⟩), rfl⟩, ?_⟩) | (refine fS S rfl rfl ?_ <;> refine KO_nil ⟨⟨by (first | exact True.intro | exact Or.inl rfl | exact Or.inr rfl | exact Or.inr (congrArg some (blkOf_elA _ _ _ _)) | exact ⟨Or.inl rfl, rfl⟩ | exact ⟨Or.inr rfl, rfl⟩), rfl⟩, ?_⟩) | (refine fA ?_ <;> refine KO_nil ⟨⟨by (first | exact True.intro | exact Or.inl rfl | exact Or.inr rfl | exact Or.inr (congrArg some (blkOf_elA _ _ _ _)) | exact ⟨Or.inl rfl, rfl⟩ | exact ⟨Or.inr rfl, rfl⟩), rfl⟩, ?_⟩)); refine KX_cons ?_; (first | ((refine sB S rfl rfl ?_; have S0 := S; clear S; intro h S); refine KO_nil ⟨⟨True.intro, ?_⟩, ?_⟩; (focus ((show keepsX _ _ _ _ _; simp only [keepsX]; (repeat' (first | exact True.intro | refine And.intro ?_ ?_)); all_goals (intro hw; first | exact True.intro | exact (S.gB).trans (S0.gB).symm | exact absurd hw (by decide +kernel))))); clear S0) | ((refine sE2 S rfl rfl ?_; have S0 := S; clear S; intro h S); refine KO_nil ⟨⟨True.intro, ?_⟩, ?_⟩; (focus ((show keepsX _ _ _ _ _; simp only [keepsX]; (repeat' (first | exact True.intro | refine And.intro ?_ ?_)); all_goals (intro hw; first | exact True.intro | exact (S.gB).trans (S0.gB).symm | exact absurd hw (by decide +kernel))))); clear S0)); refine KX_nil ?_
      all_goals (repeat' (first | refine K_seq ?_ | refine k_cond rfl ?_ | refine K_skip ?_ | refine K_exit ?_ | refine k_block ?_ | refine K_scope ?_ | (refine K_region (id := 12) ?_; (first | refine vl ?_ | refine fB S ?_ | refine fS S rfl rfl ?_ | refine fA ?_); (first | refine lB S rfl rfl ?_ | refine lES2 S rfl rfl ?_ | refine lEB S ?_ | refine lH S ?_); (first | refine ml ?_ | refine vl ?_); (first | refine vl ?_ | refine fB S ?_ | refine fS S rfl rfl ?_ | refine fA ?_); (first | refine lB S rfl rfl ?_ | refine lES2 S rfl rfl ?_ | refine lEB S ?_ | refine lH S ?_); (first | refine ad ?_ | refine vl ?_); refine mv ?_; refine KO_nil ?_)))
      refine ⟨(1 + (c.a : Int) % 11, (c.b : Int) % 3, 2 * (1 + c.a % 11) + c.b % 3), ⟨S, ?_⟩, ((by repeat (first | exact Ks.le_nil _ | refine Ks.le_cons rfl ?_ | refine Ks.le_int ?_)))⟩
      unfold SizeOk sizeOf1 longSize; (repeat' split) <;> omega
    · refine K_drawX (id := 14) [(6, (0, 1)), (8, (0, 1))] [some (bc), none] ?_; refine KX_cons ?_; (first | (refine vl ?_ <;> refine KO_nil ⟨⟨by (first | exact True.intro | exact Or.inl rfl | exact Or.inr rfl | exact Or.inr (congrArg some (blkOf_elA _ _ _ _)) | exact ⟨Or.inl rfl, rfl⟩ | exact ⟨Or.inr rfl, rfl⟩), rfl⟩, ?_⟩) | (refine fB S ?_ <;> refine KO_nil ⟨⟨by (first | exact True.intro | exact Or.inl rfl | exact Or.inr rfl | exact Or.inr (congrArg some (blkOf_elA _ _ _ _)) | exact ⟨Or.inl rfl, rfl⟩ | exact ⟨Or.inr rfl, rfl⟩), rfl⟩, ?_⟩) | (refine fS S rfl rfl ?_ <;> refine KO_nil ⟨⟨by (first | exact True.intro | exact Or.inl rfl | exact Or.inr rfl | exact Or.inr (congrArg some (blkOf_elA _ _ _ _)) | exact ⟨Or.inl rfl, rfl⟩ | exact ⟨Or.inr rfl, rfl⟩), rfl⟩, ?_⟩) | (refine fA ?_ <;> refine KO_nil ⟨⟨by (first | exact True.intro | exact Or.inl rfl | exact Or.inr rfl | exact Or.inr (congrArg some (blkOf_elA _ _ _ _)) | exact ⟨Or.inl rfl, rfl⟩ | exact ⟨Or.inr rfl, rfl⟩), rfl⟩, ?_⟩)); refine KX_cons ?_; (first | (refine lB S rfl rfl ?_ <;> refine KO_nil ⟨⟨by (first | exact True.intro | exact Or.inl rfl | exact Or.inr rfl | exact Or.inr (congrArg some (blkOf_elA _ _ _ _)) | exact ⟨Or.inl rfl, rfl⟩ | exact ⟨Or.inr rfl, rfl⟩), rfl⟩, ?_⟩) | (refine lES2 S rfl rfl ?_ <;> refine KO_nil ⟨⟨by (first | exact True.intro | exact Or.inl rfl | exact Or.inr rfl | exact Or.inr (congrArg some (blkOf_elA _ _ _ _)) | exact ⟨Or.inl rfl, rfl⟩ | exact ⟨Or.inr rfl, rfl⟩), rfl⟩, ?_⟩) | (refine lEB S ?_ <;> refine KO_nil ⟨⟨by (first | exact True.intro | exact Or.inl rfl | exact Or.inr rfl | exact Or.inr (congrArg some (blkOf_elA _ _ _ _)) | exact ⟨Or.inl rfl, rfl⟩ | exact ⟨Or.inr rfl, rfl⟩), rfl⟩, ?_⟩) | (refine lH S ?_ <;> refine KO_nil ⟨⟨by (first | exact True.intro | exact Or.inl rfl | exact Or.inr rfl | exact Or.inr (congrArg some (blkOf_elA _ _ _ _)) | exact ⟨Or.inl rfl, rfl⟩ | exact ⟨Or.inr rfl, rfl⟩), rfl⟩, ?_⟩)); refine KX_cons ?_; (first | (refine rmU ?_ <;> refine KO_nil ⟨⟨by (first | exact True.intro | exact Or.inl rfl | exact Or.inr rfl | exact Or.inr (congrArg some (blkOf_elA _ _ _ _)) | exact ⟨Or.inl rfl, rfl⟩ | exact ⟨Or.inr rfl, rfl⟩), rfl⟩, ?_⟩)); refine KX_cons ?_; (first | (refine cI ?_ <;> refine KO_nil ⟨⟨by (first | exact True.intro | exact Or.inl rfl | exact Or.inr rfl | exact Or.inr (congrArg some (blkOf_elA _ _ _ _)) | exact ⟨Or.inl rfl, rfl⟩ | exact ⟨Or.inr rfl, rfl⟩), rfl⟩, ?_⟩) | (refine vl ?_ <;> refine KO_nil ⟨⟨by (first | exact True.intro | exact Or.inl rfl | exact Or.inr rfl | exact Or.inr (congrArg some (blkOf_elA _ _ _ _)) | exact ⟨Or.inl rfl, rfl⟩ | exact ⟨Or.inr rfl, rfl⟩), rfl⟩, ?_⟩)); refine KX_cons ?_; (first | (refine ad ?_ <;> refine KO_nil ⟨⟨by (first | exact True.intro | exact Or.inl rfl | exact Or.inr rfl | exact Or.inr (congrArg some (blkOf_elA _ _ _ _)) | exact ⟨Or.inl rfl, rfl⟩ | exact ⟨Or.inr rfl, rfl⟩), rfl⟩, ?_⟩) | (refine vl ?_ <;> refine KO_nil ⟨⟨by (first | exact True.intro | exact Or.inl rfl | exact Or.inr rfl | exact Or.inr (congrArg some (blkOf_elA _ _ _ _)) | exact ⟨Or.inl rfl, rfl⟩ | exact ⟨Or.inr rfl, rfl⟩), rfl⟩, ?_⟩)); refine KX_cons ?_; (first | (refine vl ?_ <;> refine KO_nil ⟨⟨by (first | exact True.intro | exact Or.inl rfl | exact Or.inr rfl | exact Or.inr (congrArg some (blkOf_elA _ _ _ _)) | exact ⟨Or.inl rfl, rfl⟩ | exact ⟨Or.inr rfl, rfl⟩), rfl⟩, ?_⟩) | (refine fB S ?_ <;> refine KO_nil ⟨⟨by (first | exact True.intro | exact Or.inl rfl | exact Or.inr rfl | exact Or.inr (congrArg some (blkOf_elA _ _ _ _)) | exact ⟨Or.inl rfl, rfl⟩ | exact ⟨Or.inr rfl, rfl⟩), rfl⟩, ?_⟩) | (refine fS S rfl rfl ?_ <;> refine KO_nil ⟨⟨by (first | exact True.intro | exact Or.inl rfl | exact Or.inr rfl | exact Or.inr (congrArg some (blkOf_elA _ _ _ _)) | exact ⟨Or.inl rfl, rfl⟩ | exact ⟨Or.inr rfl, rfl⟩), rfl⟩, ?_⟩) | (refine fA ?_ <;> refine KO_nil ⟨⟨by (first | exact True.intro | exact Or.inl rfl | exact Or.inr rfl | exact Or.inr (congrArg some (blkOf_elA _ _ _ _)) | exact ⟨Or.inl rfl, rfl⟩ | exact ⟨Or.inr rfl, rfl⟩), rfl⟩, ?_⟩)); refine KX_cons ?_; (first | (refine lB S rfl rfl ?_ <;> refine KO_nil ⟨⟨by (first | exact True.intro | exact Or.inl rfl | exact Or.inr rfl | exact Or.inr (congrArg some (blkOf_elA _ _ _ _)) | exact ⟨Or.inl rfl, rfl⟩ | exact ⟨Or.inr rfl, rfl⟩), rfl⟩, ?_⟩) | (refine lES2 S rfl rfl ?_ <;> refine KO_nil ⟨⟨by (first | exact True.intro | exact Or.inl rfl | exact Or.inr rfl | exact Or.inr (congrArg some (blkOf_elA _ _ _ _)) | exact ⟨Or.inl rfl, rfl⟩ | exact ⟨Or.inr rfl, rfl⟩), rfl⟩, ?_⟩) | (refine lEB S ?_ <;> refine KO_nil ⟨⟨by (first | exact True.intro | exact Or.inl rfl | exact Or.inr rfl | exact Or.inr (congrArg some (blkOf_elA _ _ _ _)) | exact ⟨Or.inl rfl, rfl⟩ | exact ⟨Or.inr rfl, rfl⟩), rfl⟩, ?_⟩) | (refine lH S ?_ <;> refine KO_nil ⟨⟨by (first | exact True.intro | exact Or.inl rfl | exact Or.inr rfl | exact Or.inr (congrArg some (blkOf_elA _ _ _ _)) | exact ⟨Or.inl rfl, rfl⟩ | exact ⟨Or.inr rfl, rfl⟩), rfl⟩, ?_⟩)); refine KX_cons ?_; (first | (refine rmU ?_ <;> refine KO_nil ⟨⟨by (first | exact True.intro | exact Or.inl rfl | exact Or.inr rfl | exact Or.inr (congrArg some (blkOf_elA _ _ _ _)) | exact ⟨Or.inl rfl, rfl⟩ | exact ⟨Or.inr rfl, rfl⟩), rfl⟩, ?_⟩)); refine KX_cons ?_; (first | (refine cI ?_ <;> refine KO_nil ⟨⟨by (first | exact True.intro | exact Or.inl rfl | exact Or.inr rfl | exact Or.inr (congrArg some (blkOf_elA _ _ _ _)) | exact ⟨Or.inl rfl, rfl⟩ | exact ⟨Or.inr rfl, rfl⟩), rfl⟩, ?_⟩) | (refine vl ?_ <;> refine KO_nil ⟨⟨by (first | exact True.intro | exact Or.inl rfl | exact Or.inr rfl | exact Or.inr (congrArg some (blkOf_elA _ _ _ _)) | exact ⟨Or.inl rfl, rfl⟩ | exact ⟨Or.inr rfl, rfl⟩), rfl⟩, ?_⟩)); refine KX_cons ?_; (first | (refine ad ?_ <;> refine KO_nil ⟨⟨by (first | exact True.intro | exact Or.inl rfl | exact Or.inr rfl | exact Or.inr (congrArg some (blkOf_elA _ _ _ _)) | exact ⟨Or.inl rfl, rfl⟩ | exact ⟨Or.inr rfl, rfl⟩), rfl⟩, ?_⟩) | (refine vl ?_ <;> refine KO_nil ⟨⟨by (first | exact True.intro | exact Or.inl rfl | exact Or.inr rfl | exact Or.inr (congrArg some (blkOf_elA _ _ _ _)) | exact ⟨Or.inl rfl, rfl⟩ | exact ⟨Or.inr rfl, rfl⟩), rfl⟩, ?_⟩)); refine KX_cons ?_; (first | (refine vl ?_ <;> refine KO_nil ⟨⟨by (first | exact True.intro | exact Or.inl rfl | exact Or.inr rfl | exact Or.inr (congrArg some (blkOf_elA _ _ _ _)) | exact ⟨Or.inl rfl, rfl⟩ | exact ⟨Or.inr rfl, rfl⟩), rfl⟩, ?_⟩) | (refine fB S ?_ <;> refine KO_nil ⟨⟨by (first | exact True.intro | exact Or.inl rfl | exact Or.inr rfl | exact Or.inr (congrArg some (blkOf_elA _ _ _ _)) | exact ⟨Or.inl rfl, rfl⟩ | exact ⟨Or.inr rfl, rfl⟩), rfl⟩, ?_⟩) | (refine fS S rfl rfl ?_ <;> refine KO_nil ⟨⟨by (first | exact True.intro | exact Or.inl rfl | exact Or.inr rfl | exact Or.inr (congrArg some (blkOf_elA _ _ _ _)) | exact ⟨Or.inl rfl, rfl⟩ | exact ⟨Or.inr rfl, rfl⟩), rfl⟩, ?_⟩) | (refine fA ?_ <;> refine KO_nil ⟨⟨by (first | exact True.intro | exact Or.inl rfl | exact Or.inr rfl | exact Or.inr (congrArg some (blkOf_elA _ _ _ _)) | exact ⟨Or.inl rfl, rfl⟩ | exact ⟨Or.inr rfl, rfl⟩), rfl⟩, ?_⟩)); refine KX_cons ?_; (first | ((refine sB S rfl rfl ?_; have S0 := S; clear S; intro h S); refine KO_nil ⟨⟨True.intro, ?_⟩, ?_⟩; (focus ((show keepsX _ _ _ _ _; simp only [keepsX]; (repeat' (first | exact True.intro | refine And.intro ?_ ?_)); all_goals (intro hw; first | exact True.intro | exact (S.gB).trans (S0.gB).symm | exact absurd hw (by decide +kernel))))); clear S0) | ((refine sE2 S rfl rfl ?_; have S0 := S; clear S; intro h S); refine KO_nil ⟨⟨True.intro, ?_⟩, ?_⟩; (focus ((show keepsX _ _ _ _ _; simp only [keepsX]; (repeat' (first | exact True.intro | refine And.intro ?_ ?_)); all_goals (intro hw; first | exact True.intro | exact (S.gB).trans (S0.gB).symm | exact absurd hw (by decide +kernel))))); clear S0)); refine KX_cons ?_; (first | (refine vl ?_ <;> refine KO_nil ⟨⟨by (first | exact True.intro | exact Or.inl rfl | exact Or.inr rfl | exact Or.inr (congrArg some (blkOf_elA _ _ _ _)) | exact ⟨Or.inl rfl, rfl⟩ | exact ⟨Or.inr rfl, rfl⟩), rfl⟩, ?_⟩) | (refine fB S ?_ <;> refine KO_nil ⟨⟨by (first | exact True.intro | exact Or.inl rfl | exact Or.inr rfl | exact Or.inr (congrArg some (blkOf_elA _ _ _ _)) | exact ⟨Or.inl rfl, rfl⟩ | exact ⟨Or.inr rfl, rfl⟩), rfl⟩, ?_⟩) | (refine fS S rfl rfl ?_ <;> refine KO_nil ⟨⟨by (first | exact True.intro | exact Or.inl rfl | exact Or.inr rfl | exact Or.inr (congrArg some (blkOf_elA _ _ _ _)) | exact ⟨Or.inl rfl, rfl⟩ | exact ⟨Or.inr rfl, rfl⟩), rfl⟩, ?_⟩) | (refine fA ?_ <;> refine KO_nil ⟨⟨by (first | exact True.intro | exact Or.inl rfl | exact Or.inr rfl | exact Or.inr (congrArg some (blkOf_elA _ _ _ _)) | exact ⟨Or.inl rfl, rfl⟩ | exact ⟨Or.inr rfl, rfl⟩), rfl⟩, ?_⟩)); refine KX_cons ?_; (first | ((refine sB S rfl rfl ?_; have S0 := S; clear S; intro h S); refine KO_nil ⟨⟨True.intro, ?_⟩, ?_⟩; (focus ((show keepsX _ _ _ _ _; simp only [keepsX]; (repeat' (first | exact True.intro | refine And.intro ?_ ?_)); all_goals (intro hw; first | exact True.intro | exact (S.gB).trans (S0.gB).symm | exact absurd hw (by decide +kernel))))); clear S0) | ((refine sE2 S rfl rfl ?_; have S0 := S; clear S; intro h S); refine KO_nil ⟨⟨True.intro, ?_⟩, ?_⟩; (focus ((show keepsX _ _ _ _ _; simp only [keepsX]; (repeat' (first | exact True.intro | refine And.intro ?_ ?_)); all_goals (intro hw; first | exact True.intro | exact (S.gB).trans (S0.gB).symm | exact absurd hw (by decide +kernel))))); clear S0)); refine KX_nil ?_
      all_goals (repeat' (first | refine K_seq ?_ | refine k_cond rfl ?_ | refine K_skip ?_ | refine K_exit ?_ | refine k_block ?_ | refine K_scope ?_ | (refine K_region (id := 15) ?_; (first | refine vl ?_ | refine fB S ?_ | refine fS S rfl rfl ?_ | refine fA ?_); (first | refine lB S rfl rfl ?_ | refine lES2 S rfl rfl ?_ | refine lEB S ?_ | refine lH S ?_); (first | refine vl ?_ | refine fB S ?_ | refine fS S rfl rfl ?_ | refine fA ?_); (first | refine lB S rfl rfl ?_ | refine lES2 S rfl rfl ?_ | refine lEB S ?_ | refine lH S ?_); (first | refine ml ?_ | refine vl ?_); (first | refine ad ?_ | refine vl ?_); refine mv ?_; refine KO_nil ?_)))
      refine ⟨(1 + (c.a : Int) % 8, 1 + (c.b : Int) % 8, (1 + c.a % 8) + 2 * (1 + c.b % 8)), ⟨S, ?_⟩, ((by repeat (first | exact Ks.le_nil _ | refine Ks.le_cons rfl ?_ | refine Ks.le_int ?_)))⟩
      unfold SizeOk sizeOf1 shoeSize; (repeat' split) <;> omega
    · refine ⟨(1 + (c.a : Int) % 24, (c.b : Int) % (1 + (c.a : Int) % 24 + 1), 1 + c.a % 24), ⟨S, ?_⟩, ((by repeat (first | exact Ks.le_nil _ | refine Ks.le_cons rfl ?_ | refine Ks.le_int ?_)))⟩
      have g1 : 0 ≤ (c.b : Int) % (1 + (c.a : Int) % 24 + 1) := Int.emod_nonneg _ (by omega)
      have g2 : (c.b : Int) % (1 + (c.a : Int) % 24 + 1) < 1 + (c.a : Int) % 24 + 1 := Int.emod_lt_of_pos _ (by omega)
      unfold SizeOk sizeOf1 rowSize; (repeat' split) <;> omega
  clear S
  rintro ⟨a, b, n⟩ h ⟨S, Z⟩
  obtain ⟨y1, y2, y3, y4⟩ := Z
  (repeat (refine K_seq ?_)); refine K_region (id := 16) ?_
  (first | refine vl ?_ | refine fB S ?_ | refine fS S rfl rfl ?_ | refine fA ?_); (first | refine lB S rfl rfl ?_ | refine lES2 S rfl rfl ?_ | refine lEB S ?_ | refine lH S ?_); (first | refine vl ?_ | refine fB S ?_ | refine fS S rfl rfl ?_ | refine fA ?_); (first | refine lB S rfl rfl ?_ | refine lES2 S rfl rfl ?_ | refine lEB S ?_ | refine lH S ?_); (first | refine lnB S ?_ | refine lnS S rfl rfl ?_); refine mn ?_
  have e : min (c.opn.length : Int) 24 = ((min c.opn.length 24 : Nat) : Int) := by omega
  rw [e]
  refine su0 0 (min c.opn.length 24) S w hrd A.cap ?_
  intro vs hvs hcs
  obtain ⟨lb, hlb⟩ : ∃ lb, lb = ((c.opn.drop 0).take (min c.opn.length 24 - 0)) := ⟨_, rfl⟩
  have hll : lb.length = min c.opn.length 24 := by rw [hlb]; simp
  rw [← hlb] at hvs
  (first | refine lnB S ?_ | refine lnS S rfl rfl ?_); refine mv ?_; refine KO_nil ?_
  all_goals (repeat' (first | refine K_seq ?_ | refine k_cond rfl ?_ | refine K_skip ?_ | refine K_exit ?_ | refine k_block ?_ | refine K_scope ?_ | (refine K_region (id := 16) ?_; (first | refine vl ?_ | refine fB S ?_ | refine fS S rfl rfl ?_ | refine fA ?_); (first | refine lB S rfl rfl ?_ | refine lES2 S rfl rfl ?_ | refine lEB S ?_ | refine lH S ?_); (first | refine vl ?_ | refine fB S ?_ | refine fS S rfl rfl ?_ | refine fA ?_); (first | refine lB S rfl rfl ?_ | refine lES2 S rfl rfl ?_ | refine lEB S ?_ | refine lH S ?_); (first | refine lnB S ?_ | refine lnS S rfl rfl ?_); refine mn ?_)))
  refine k_loop (σ := Nat × SlV × List Int) (fun (i, os, opn) h' => Hs h0 h' [.sl os.val 3 1 eI opn, .blk bt [str nm, .int .u8 (1 + (c.s : Int) % 4), .int .i64 a, .int .i64 b, os.val, .int .i64 0, .int .i64 0] 25, .blk br [str [], .int .u8 0, .int .i64 0, .int .i64 0, .slice none 0 0, .int .i64 0, .int .i64 0] 25, .blk bc (eC c) 50] ∧ i ≤ lb.length ∧ opn.length = i ∧ ∀ x, x < i → 0 ≤ opn.getD x default ∧ opn.getD x default < n) (fun (i, os, opn) => lb.length - i) (fun (i, os, opn) => [(2, .pointer (some ⟨bc, 0, none⟩)), (4, .pointer (some ⟨br, 0, none⟩)), (5, .pointer (some ⟨bt, 0, none⟩)), (6, .int .i64 n), (88, vs), (89, .int .i64 lb.length), (90, .int .i64 i)]) (0, ⟨none, 0, 0⟩, []) (by repeat (first | exact Ks.le_nil _ | refine Ks.le_cons rfl ?_ | refine Ks.le_int ?_)) ?_ ?_
  · exact ⟨S.nilS, Nat.zero_le _, rfl, fun x hx => by omega⟩
  clear S
  rintro ⟨i, os, opn⟩ h ⟨S, h1, h2, h3⟩
  all_goals (repeat' (first | refine K_seq ?_ | refine k_cond rfl ?_ | refine K_skip ?_ | refine K_exit ?_ | refine k_block ?_ | refine K_scope ?_ | (refine K_region (id := 17) ?_; (first | refine cT ?_ | refine cF ?_ | (refine cS ?_ ?_ <;> intro hc)) <;> (refine KO_nil ?_)) | (refine K_region (id := 18) ?_; (first | refine ixB S ?_ | refine ixS2 S rfl rfl ?_); (first | refine lB S rfl rfl ?_ | refine lES2 S rfl rfl ?_ | refine lEB S ?_ | refine lH S ?_); refine mv ?_; refine KO_nil ?_) | (refine K_region (id := 21) ?_; (first | refine vl ?_ | refine fB S ?_ | refine fS S rfl rfl ?_ | refine fA ?_); (first | refine lB S rfl rfl ?_ | refine lES2 S rfl rfl ?_ | refine lEB S ?_ | refine lH S ?_))))
  · (try simp only [Int.toNat_natCast] at *)
    have hx0 : lb.getD i default < 256 := by
      have e2 : lb.getD i default = c.opn.getD i default := by
        rw [hlb]
        simp only [List.drop_zero, Nat.sub_zero, List.getD_eq_getElem?_getD, List.getElem?_take]
        rw [if_pos (by omega)]
      rw [e2]; exact A.b2 i (by omega)
    refine K_drawX (id := 19) [(1, (0, 1))] [some (bt)] ?_; refine KX_cons ?_; (first | (refine vl ?_ <;> refine KO_nil ⟨⟨by (first | exact True.intro | exact Or.inl rfl | exact Or.inr rfl | exact Or.inr (congrArg some (blkOf_elA _ _ _ _)) | exact ⟨Or.inl rfl, rfl⟩ | exact ⟨Or.inr rfl, rfl⟩), rfl⟩, ?_⟩) | (refine fB S ?_ <;> refine KO_nil ⟨⟨by (first | exact True.intro | exact Or.inl rfl | exact Or.inr rfl | exact Or.inr (congrArg some (blkOf_elA _ _ _ _)) | exact ⟨Or.inl rfl, rfl⟩ | exact ⟨Or.inr rfl, rfl⟩), rfl⟩, ?_⟩) | (refine fS S rfl rfl ?_ <;> refine KO_nil ⟨⟨by (first | exact True.intro | exact Or.inl rfl | exact Or.inr rfl | exact Or.inr (congrArg some (blkOf_elA _ _ _ _)) | exact ⟨Or.inl rfl, rfl⟩ | exact ⟨Or.inr rfl, rfl⟩), rfl⟩, ?_⟩) | (refine fA ?_ <;> refine KO_nil ⟨⟨by (first | exact True.intro | exact Or.inl rfl | exact Or.inr rfl | exact Or.inr (congrArg some (blkOf_elA _ _ _ _)) | exact ⟨Or.inl rfl, rfl⟩ | exact ⟨Or.inr rfl, rfl⟩), rfl⟩, ?_⟩)); refine KX_cons ?_; (first | (refine lB S rfl rfl ?_ <;> refine KO_nil ⟨⟨by (first | exact True.intro | exact Or.inl rfl | exact Or.inr rfl | exact Or.inr (congrArg some (blkOf_elA _ _ _ _)) | exact ⟨Or.inl rfl, rfl⟩ | exact ⟨Or.inr rfl, rfl⟩), rfl⟩, ?_⟩) | (refine lES2 S rfl rfl ?_ <;> refine KO_nil ⟨⟨by (first | exact True.intro | exact Or.inl rfl | exact Or.inr rfl | exact Or.inr (congrArg some (blkOf_elA _ _ _ _)) | exact ⟨Or.inl rfl, rfl⟩ | exact ⟨Or.inr rfl, rfl⟩), rfl⟩, ?_⟩) | (refine lEB S ?_ <;> refine KO_nil ⟨⟨by (first | exact True.intro | exact Or.inl rfl | exact Or.inr rfl | exact Or.inr (congrArg some (blkOf_elA _ _ _ _)) | exact ⟨Or.inl rfl, rfl⟩ | exact ⟨Or.inr rfl, rfl⟩), rfl⟩, ?_⟩) | (refine lH S ?_ <;> refine KO_nil ⟨⟨by (first | exact True.intro | exact Or.inl rfl | exact Or.inr rfl | exact Or.inr (congrArg some (blkOf_elA _ _ _ _)) | exact ⟨Or.inl rfl, rfl⟩ | exact ⟨Or.inr rfl, rfl⟩), rfl⟩, ?_⟩)); refine KX_cons ?_; (first | (refine mv ?_ <;> refine KO_nil ⟨⟨by (first | exact True.intro | exact Or.inl rfl | exact Or.inr rfl | exact Or.inr (congrArg some (blkOf_elA _ _ _ _)) | exact ⟨Or.inl rfl, rfl⟩ | exact ⟨Or.inr rfl, rfl⟩), rfl⟩, ?_⟩)); refine KX_cons ?_; (first | (refine cI ?_ <;> refine KO_nil ⟨⟨by (first | exact True.intro | exact Or.inl rfl | exact Or.inr rfl | exact Or.inr (congrArg some (blkOf_elA _ _ _ _)) | exact ⟨Or.inl rfl, rfl⟩ | exact ⟨Or.inr rfl, rfl⟩), rfl⟩, ?_⟩) | (refine vl ?_ <;> refine KO_nil ⟨⟨by (first | exact True.intro | exact Or.inl rfl | exact Or.inr rfl | exact Or.inr (congrArg some (blkOf_elA _ _ _ _)) | exact ⟨Or.inl rfl, rfl⟩ | exact ⟨Or.inr rfl, rfl⟩), rfl⟩, ?_⟩)); refine KX_cons ?_; (first | (refine mv ?_ <;> refine KO_nil ⟨⟨by (first | exact True.intro | exact Or.inl rfl | exact Or.inr rfl | exact Or.inr (congrArg some (blkOf_elA _ _ _ _)) | exact ⟨Or.inl rfl, rfl⟩ | exact ⟨Or.inr rfl, rfl⟩), rfl⟩, ?_⟩)); refine KX_cons ?_; (first | (refine rm ?_ <;> refine KO_nil ⟨⟨by (first | exact True.intro | exact Or.inl rfl | exact Or.inr rfl | exact Or.inr (congrArg some (blkOf_elA _ _ _ _)) | exact ⟨Or.inl rfl, rfl⟩ | exact ⟨Or.inr rfl, rfl⟩), rfl⟩, ?_⟩) | (refine vl ?_ <;> refine KO_nil ⟨⟨by (first | exact True.intro | exact Or.inl rfl | exact Or.inr rfl | exact Or.inr (congrArg some (blkOf_elA _ _ _ _)) | exact ⟨Or.inl rfl, rfl⟩ | exact ⟨Or.inr rfl, rfl⟩), rfl⟩, ?_⟩)); refine KX_cons ?_; (first | ((refine one 1 S ?_; have S0 := S; clear S; intro u h S); refine KO_nil ⟨⟨True.intro, ?_⟩, ?_⟩; (focus ((show keepsX _ _ _ _ _; simp only [keepsX]; (repeat' (first | exact True.intro | refine And.intro ?_ ?_)); all_goals (intro hw; first | exact True.intro | exact (S.gB).trans (S0.gB).symm | exact absurd hw (by decide +kernel))))); clear S0))
    refine KX_cons ?_; refine app (y0 := ((lb.getD i default : Nat) : Int) % (n : Int)) S rfl rfl ?_; have S0 := S; clear S; intro v h S; refine KO_nil ⟨⟨True.intro, ?_⟩, ?_⟩; (focus ((show keepsX _ _ _ _ _; simp only [keepsX]; (repeat' (first | exact True.intro | refine And.intro ?_ ?_)); all_goals (intro hw; first | exact True.intro | exact (S.gB).trans (S0.gB).symm | exact absurd hw (by decide +kernel))))); clear S0
    obtain ⟨sv, rfl⟩ := (Rd.of_sl S .here).isSl
    refine KX_cons ?_; (first | (refine vl ?_ <;> refine KO_nil ⟨⟨by (first | exact True.intro | exact Or.inl rfl | exact Or.inr rfl | exact Or.inr (congrArg some (blkOf_elA _ _ _ _)) | exact ⟨Or.inl rfl, rfl⟩ | exact ⟨Or.inr rfl, rfl⟩), rfl⟩, ?_⟩) | (refine fB S ?_ <;> refine KO_nil ⟨⟨by (first | exact True.intro | exact Or.inl rfl | exact Or.inr rfl | exact Or.inr (congrArg some (blkOf_elA _ _ _ _)) | exact ⟨Or.inl rfl, rfl⟩ | exact ⟨Or.inr rfl, rfl⟩), rfl⟩, ?_⟩) | (refine fS S rfl rfl ?_ <;> refine KO_nil ⟨⟨by (first | exact True.intro | exact Or.inl rfl | exact Or.inr rfl | exact Or.inr (congrArg some (blkOf_elA _ _ _ _)) | exact ⟨Or.inl rfl, rfl⟩ | exact ⟨Or.inr rfl, rfl⟩), rfl⟩, ?_⟩) | (refine fA ?_ <;> refine KO_nil ⟨⟨by (first | exact True.intro | exact Or.inl rfl | exact Or.inr rfl | exact Or.inr (congrArg some (blkOf_elA _ _ _ _)) | exact ⟨Or.inl rfl, rfl⟩ | exact ⟨Or.inr rfl, rfl⟩), rfl⟩, ?_⟩)); refine KX_cons ?_; (first | ((refine sB S rfl rfl ?_; have S0 := S; clear S; intro h S); refine KO_nil ⟨⟨True.intro, ?_⟩, ?_⟩; (focus ((show keepsX _ _ _ _ _; simp only [keepsX]; (repeat' (first | exact True.intro | refine And.intro ?_ ?_)); all_goals (intro hw; first | exact True.intro | exact (S.gB).trans (S0.gB).symm | exact absurd hw (by decide +kernel))))); clear S0) | ((refine sE2 S rfl rfl ?_; have S0 := S; clear S; intro h S); refine KO_nil ⟨⟨True.intro, ?_⟩, ?_⟩; (focus ((show keepsX _ _ _ _ _; simp only [keepsX]; (repeat' (first | exact True.intro | refine And.intro ?_ ?_)); all_goals (intro hw; first | exact True.intro | exact (S.gB).trans (S0.gB).symm | exact absurd hw (by decide +kernel))))); clear S0)); refine KX_nil ?_
    all_goals (repeat' (first | refine K_seq ?_ | refine k_cond rfl ?_ | refine K_skip ?_ | refine K_exit ?_ | refine k_block ?_ | refine K_scope ?_ | (refine K_region (id := 20) ?_; (first | refine ad ?_ | refine vl ?_); refine mv ?_; refine KO_nil ?_)))
    have m1 : 0 ≤ ((lb.getD i default : Nat) : Int) % (n : Int) := Int.emod_nonneg _ (by omega)
    have m2 : ((lb.getD i default : Nat) : Int) % (n : Int) < n := Int.emod_lt_of_pos _ (by omega)
    refine ⟨(i + 1, sv, opn ++ [((lb.getD i default : Nat) : Int) % (n : Int)]), ?_, ?_, (by repeat (first | exact Ks.le_nil _ | refine Ks.le_cons rfl ?_ | refine Ks.le_int ?_))⟩
    · show lb.length - (i + 1) < lb.length - i; omega
    · refine ⟨S, by omega, by simp; omega, fun x hx => ?_⟩
      rcases Nat.lt_or_ge x i with q | q
      · rw [getD_snoc1 _ _ (by omega)]; exact h3 x q
      · rw [getD_snoc2 _ _ (by omega)]; exact ⟨m1, m2⟩
  · have hol : opn.length ≤ 24 := by omega
    (refine KO_fn rfl rfl rfl rfl rfl ((sort_o S (by omega)).mono ?_); rintro _ h ⟨l2, g1, g2, S2⟩) <;> (replace S := S2; clear S2; refine KO_nil ?_)
    have gl := g1.len
    have g2' : Srt ltI 0 l2.length l2 := by rw [gl]; exact g2
    all_goals (repeat' (first | refine K_seq ?_ | refine k_cond rfl ?_ | refine K_skip ?_ | refine K_exit ?_ | refine k_block ?_ | refine K_scope ?_ | (refine K_region (id := 22) ?_; (first | refine vl ?_ | refine fB S ?_ | refine fS S rfl rfl ?_ | refine fA ?_); (first | refine lB S rfl rfl ?_ | refine lES2 S rfl rfl ?_ | refine lEB S ?_ | refine lH S ?_))))
    (refine KO_fn rfl rfl rfl rfl rfl ((compact_ok S (by omega) g2').mono ?_); rintro r h ⟨out, k1, k2, k3, S2⟩) <;> (replace S := S2; clear S2; obtain ⟨so, rfl⟩ := (Rd.of_rd S .here).isSl; (first | refine vl ?_ | refine fB S ?_ | refine fS S rfl rfl ?_ | refine fA ?_); (first | (refine sB S rfl rfl ?_; clear S; intro h S) | (refine sE2 S rfl rfl ?_; clear S; intro h S)); refine KO_nil ?_)
    all_goals (repeat' (first | refine K_seq ?_ | refine k_cond rfl ?_ | refine K_skip ?_ | refine K_exit ?_ | refine k_block ?_ | refine K_scope ?_ | (refine K_region (id := 23) ?_; (first | refine lB S rfl rfl ?_ | refine lES2 S rfl rfl ?_ | refine lEB S ?_ | refine lH S ?_); (first | (refine sB S rfl rfl ?_; clear S; intro h S) | (refine sE2 S rfl rfl ?_; clear S; intro h S)); refine KO_nil ?_)))
    refine K_ret ⟨_, ret_cell S rfl (by first | exact .here | exact .there .here | exact .there (.there .here)) (by exact rfl) (by exact rfl), ?_⟩
    have hsz : tsize (⟨nm, 1 + (c.s : Int) % 4, a, b, so, out, 0, 0⟩ : Tab) = n := y1
    refine ⟨⟨nm, 1 + (c.s : Int) % 4, a, b, so, out, 0, 0⟩, rfl, ⟨rfl, rfl, TabS.of _ (by rw [hsz]; omega), fun x hx => ⟨?_, fun hx0 => k1 x hx0 hx⟩, by show out.length ≤ 24; omega, ⟨rfl, rfl⟩, y4⟩, S.only .here⟩
    obtain ⟨j, j1, j2⟩ := k2 x hx
    rw [hsz]
    obtain ⟨m, m1, m2, m3⟩ := g1.in_ (k := j) (Nat.zero_le _) (by omega)
    show 0 ≤ out.getD x default ∧ out.getD x default < n
    rw [j2, m3]
    exact h3 m (by omega)
end Go.Proofs.Xx

/-
  Halls that are made of codes.
-/
namespace Go.Proofs.Xx
open Go Go.Proofs
set_option linter.unusedSimpArgs false
set_option linter.unusedVariables false
set_option maxRecDepth 100000

abbrev letter (i : Nat) : List UInt8 := [UInt8.ofNat (97 + i)]
theorem letter_lt {i : Nat} (h : i < 16) : (UInt8.ofNat (97 + i)).toNat = 97 + i := by
  rw [UInt8.toNat_ofNat']; omega
theorem letter_inj {i j : Nat} (hi : i < 16) (hj : j < 16) (h : letter i = letter j) : i = j := by
  have : UInt8.ofNat (97 + i) = UInt8.ofNat (97 + j) := by simpa [letter] using h
  have := congrArg UInt8.toNat this
  rw [letter_lt hi, letter_lt hj] at this
  omega
/-- The hall of codes. -/
structure MadeH (cs : List Cod) (l : List Tab) : Prop where
  len : l.length = min cs.length 16
  tab : ∀ i, i < l.length → ∃ t, MadeT (cd cs i) (letter i) t ∧ tb l i = { t with X := 7 * (i : Int), Y := 100 - (i : Int) }
def OpnA (l : List Tab) (h : AH) (fp : Fp) : Prop := ∀ j, j < l.length → RdL h (tb l j).ov 1 eI (tb l j).opn
theorem MadeH.le {cs : List Cod} {l : List Tab} (m : MadeH cs l) : l.length ≤ 16 := by have := m.len; omega
theorem MadeH.name {cs : List Cod} {l : List Tab} (m : MadeH cs l) {i : Nat} (h : i < l.length) : (tb l i).name = letter i := by
  obtain ⟨t, h1, h2⟩ := m.tab i h
  rw [h2]; exact h1.name
theorem tsize_xy (t : Tab) (x y : Int) : tsize { t with X := x, Y := y } = tsize t := rfl
theorem MadeH.chk {cs : List Cod} {l : List Tab} (m : MadeH cs l) {i : Nat} (h : i < l.length) : chk (tb l i) = 0 := by
  have hle := m.le
  obtain ⟨t, h1, h2⟩ := m.tab i h
  rw [h2]
  unfold Xx.chk
  have hn : nameP t.name := by
    rw [h1.name]
    refine ⟨by simp, by simp, fun j hj => ?_⟩
    obtain rfl : j = 0 := by simpa using hj
    show lowB (UInt8.ofNat (97 + i))
    unfold lowB
    rw [letter_lt (by omega)]; omega
  have hp := h1.ts.pos
  rw [if_neg (by simpa using hn), tsize_xy, if_neg (by omega), if_neg (by simpa using h1.opn), if_neg]
  simp only [XYok, Classical.not_not]
  omega
theorem MadeH.valid {cs : List Cod} {l : List Tab} (m : MadeH cs l) : ValidL l := by
  have hle := m.le
  refine ⟨hle, fun j hj => ⟨m.chk hj, fun ⟨i, hi, he⟩ => ?_⟩⟩
  rw [m.name (by omega), m.name hj] at he
  have := letter_inj (by omega) (by omega) he
  omega
theorem MadeH.opnLen {cs : List Cod} {l : List Tab} (m : MadeH cs l) {i : Nat} (h : i < l.length) : (tb l i).opn.length ≤ 24 := by
  obtain ⟨t, h1, h2⟩ := m.tab i h
  rw [h2]; exact h1.len
theorem Hs.pushOpn {h0 h : AH} {rs : List Rs} {t : Tab} {l : List Tab} (S : Hs h0 h (.rd t.ov 1 eI t.opn :: .any (OpnA l) :: rs)) : Hs h0 h (.any (OpnA (l ++ [t])) :: rs) :=
  S.merge fun f1 f2 k1 k2 h'' hh j hj => by
    have k2 := k2 h'' fun b hb => hh b (.inr hb)
    have k1 := k1.local fun b hb => hh b (.inl hb)
    rw [List.length_append, List.length_cons, List.length_nil] at hj
    rcases Nat.lt_or_ge j l.length with q | q
    · rw [show tb (l ++ [t]) j = tb l j from getD_snoc1 _ _ q]; exact k2 j q
    · rw [show tb (l ++ [t]) j = t from getD_snoc2 _ _ (by omega)]
      rcases k1 with ⟨e1, e2⟩ | ⟨bb, o, cap, cc, e, sk, r, e1, e2, -, e3⟩
      · rw [e1, e2]; exact Rd.none_ _ 1
      · exact .inr ⟨bb, o, cap, cc, e, sk, r, e1, e2, e3⟩
theorem MadeH.hallR {cs : List Cod} {l : List Tab} {h0 h : AH} {rs : List Rs} {v : Value} {e : TypeId} (m : MadeH cs l) (S : Hs h0 h rs) (a : At rs (.sl v e 7 eT l)) (b : At rs (.any (OpnA l))) : HallR h v l := by
  have hle := m.le
  obtain ⟨fp, k⟩ := S.anyP b
  refine ⟨Rd.of_sl S a, fun i hi => ⟨k i hi, ?_, ?_⟩, by omega, S.capS a⟩
  · rw [m.name hi]; simp
  · have := m.opnLen hi; omega

theorem madeAll_ok {h0 : AH} (w : WfH h0) (v : Value) (cs : List Cod) (A : CodesA h0 v cs) : Fn Tryz.prog Xh 28 [v] h0 (fun r h' => ∃ l, MadeH cs l ∧ Hs h0 h' [.sl r 25 7 eT l, .any (OpnA l)]) := by
  have S := Hs.start w
  have hr := A.rd
  refine Fn_K rfl Tryz.func28 rfl rfl ?_
  all_goals (repeat' (first | refine K_seq ?_ | refine k_cond rfl ?_ | refine K_skip ?_ | refine K_exit ?_ | refine k_block ?_ | refine K_scope ?_ | (refine K_region (id := 0) ?_; refine mv ?_; refine KO_nil ?_) | (refine K_region (id := 1) ?_; refine mv ?_; refine KO_nil ?_) | (refine K_region (id := 2) ?_; refine mv ?_; refine mv ?_; (first | refine lnB S ?_ | refine lnS S rfl rfl ?_); refine mn ?_)))
  have e : min (cs.length : Int) 16 = ((min cs.length 16 : Nat) : Int) := by omega
  rw [e]
  refine su0 0 (min cs.length 16) S w hr A.cap ?_
  intro vs hvs hcs
  obtain ⟨lb, hlb⟩ : ∃ lb, lb = ((cs.drop 0).take (min cs.length 16 - 0)) := ⟨_, rfl⟩
  have hll : lb.length = min cs.length 16 := by rw [hlb]; simp
  have hlg : ∀ i, i < lb.length → lb.getD i default = cd cs i := fun i hi => by
    rw [hlb]
    simp only [cd, List.drop_zero, Nat.sub_zero, List.getD_eq_getElem?_getD, List.getElem?_take]
    rw [if_pos (by omega)]
  rw [← hlb] at hvs
  clear hr
  (first | refine lnB S ?_ | refine lnS S rfl rfl ?_); refine mv ?_; refine KO_nil ?_
  all_goals (repeat' (first | refine K_seq ?_ | refine k_cond rfl ?_ | refine K_skip ?_ | refine K_exit ?_ | refine k_block ?_ | refine K_scope ?_))
  refine k_loop (σ := Nat × List Tab × Value) (fun (i, l, vo) h' => Hs h0 h' [.sl vo 25 7 eT l, .any (OpnA l)] ∧ i ≤ lb.length ∧ l.length = i ∧ ∀ j, j < i → ∃ t, MadeT (cd cs j) (letter j) t ∧ tb l j = { t with X := 7 * (j : Int), Y := 100 - (j : Int) }) (fun (i, l, vo) => lb.length - i) (fun (i, l, vo) => [(3, vo), (11, vs), (12, .int .i64 lb.length), (13, .int .i64 i)]) (0, [], .slice none 0 0) (by repeat (first | exact Ks.le_nil _ | refine Ks.le_cons rfl ?_ | refine Ks.le_int ?_)) ?_ ?_
  · exact ⟨(S.anyS fun h' j hj => absurd hj (Nat.not_lt_zero _)).nilS, Nat.zero_le _, rfl, fun j hj => by omega⟩
  clear S
  rintro ⟨i, l, vo⟩ h ⟨S, h1, h2, h3⟩
  all_goals (repeat' (first | refine K_seq ?_ | refine k_cond rfl ?_ | refine K_skip ?_ | refine K_exit ?_ | refine k_block ?_ | refine K_scope ?_ | (refine K_region (id := 3) ?_; (first | refine cT ?_ | refine cF ?_ | (refine cS ?_ ?_ <;> intro hc)) <;> (refine KO_nil ?_)) | (refine K_region (id := 4) ?_; refine mv ?_; (first | refine ixB S ?_ | refine ixS2 S rfl rfl ?_); (first | refine lB S rfl rfl ?_ | refine lES2 S rfl rfl ?_ | refine lEB S ?_ | refine lH S ?_); (refine al S ?_; clear S; intro b h S); refine mv ?_; (first | (refine sB S rfl rfl ?_; clear S; intro h S) | (refine sE2 S rfl rfl ?_; clear S; intro h S)); refine KO_nil ?_) | (refine K_region (id := 5) ?_; (first | refine lB S rfl rfl ?_ | refine lES2 S rfl rfl ?_ | refine lEB S ?_ | refine lH S ?_); refine mv ?_; (first | refine ad ?_ | refine vl ?_); (first | refine cU ?_ | refine vl ?_); (refine one 1 S ?_; clear S; intro u h S)) | (refine K_region (id := 9) ?_; refine mv ?_; refine mv ?_; refine KO_nil ?_)))
  · (try simp only [Int.toNat_natCast] at *)
    have hi : i < lb.length := by omega
    have e1 : (97 : Int) + (i : Int) = ((97 + i : Nat) : Int) := by omega
    simp only [e1] at S
    have S1 := S.one eU (97 + i) rfl
    refine bS (l := [97 + i]) (Rd.of_sl S1 .here) ?_
    clear S1
    have hC : CodA h0 (lb.getD i default) := by rw [hlg i hi]; exact A.cod i (by omega)
    (refine KO_fn rfl rfl rfl rfl rfl ((made_ok S.wf (lb.getD i default) (hC.ext w S.ext) (letter i)).mono ?_); rintro _ h ⟨t, rfl, hm, x⟩) <;> (replace S := S.join1 x; clear x; (refine al S ?_; clear S; intro b h S); (first | (refine sB S rfl rfl ?_; clear S; intro h S) | (refine sE2 S rfl rfl ?_; clear S; intro h S)); refine KO_nil ?_)
    rw [hlg i hi] at hm
    all_goals (repeat' (first | refine K_seq ?_ | refine k_cond rfl ?_ | refine K_skip ?_ | refine K_exit ?_ | refine k_block ?_ | refine K_scope ?_ | (refine K_region (id := 6) ?_; refine mv ?_; (first | refine ml ?_ | refine vl ?_); refine mv ?_; (first | refine sb ?_ | refine vl ?_); (first | refine vl ?_ | refine fB S ?_ | refine fS S rfl rfl ?_ | refine fA ?_); (first | (refine sB S rfl rfl ?_; clear S; intro h S) | (refine sE2 S rfl rfl ?_; clear S; intro h S)); (first | refine vl ?_ | refine fB S ?_ | refine fS S rfl rfl ?_ | refine fA ?_); (first | (refine sB S rfl rfl ?_; clear S; intro h S) | (refine sE2 S rfl rfl ?_; clear S; intro h S)); refine KO_nil ?_) | (refine K_region (id := 7) ?_; refine mv ?_; (first | refine lB S rfl rfl ?_ | refine lES2 S rfl rfl ?_ | refine lEB S ?_ | refine lH S ?_); (refine one 7 S ?_; clear S; intro u h S))))
    refine app (y0 := { t with X := 7 * (i : Int), Y := 100 - (i : Int) }) S rfl rfl ?_; clear S; intro v h S; refine mv ?_; refine KO_nil ?_
    all_goals (repeat' (first | refine K_seq ?_ | refine k_cond rfl ?_ | refine K_skip ?_ | refine K_exit ?_ | refine k_block ?_ | refine K_scope ?_ | (refine K_region (id := 8) ?_; (first | refine ad ?_ | refine vl ?_); refine mv ?_; refine KO_nil ?_)))
    refine ⟨(i + 1, l ++ [{ t with X := 7 * (i : Int), Y := 100 - (i : Int) }], v), ?_, ?_, (by repeat (first | exact Ks.le_nil _ | refine Ks.le_cons rfl ?_ | refine Ks.le_int ?_))⟩
    · show lb.length - (i + 1) < lb.length - i; omega
    · have S := ((S.del (.there .here)).del (.there (.there .here))).del (.there (.there .here))
      have S := (S.front (.there (.there .here))).front (.there (.there .here))
      have S := Hs.pushOpn (t := { t with X := 7 * (i : Int), Y := 100 - (i : Int) }) S
      refine ⟨S.front (.there .here), by omega, by simp; omega, fun j hj => ?_⟩
      rcases Nat.lt_or_ge j i with q | q
      · rw [show tb (l ++ [{ t with X := 7 * (i : Int), Y := 100 - (i : Int) }]) j = tb l j from getD_snoc1 _ _ (by omega)]; exact h3 j q
      · obtain rfl : j = i := by omega
        rw [show tb (l ++ [{ t with X := 7 * (j : Int), Y := 100 - (j : Int) }]) j = _ from getD_snoc2 _ _ (by omega)]
        exact ⟨t, hm, rfl⟩
  · refine K_ret ⟨_, rfl, ?_⟩
    exact ⟨l, ⟨by omega, fun j hj => h3 j (by omega)⟩, S⟩

end Go.Proofs.Xx

/-
  Distances found level by level.
-/
namespace Go.Proofs.Xx
set_option linter.unusedVariables false

theorem pigeon : ∀ (n m : Nat) (f : Nat → Nat), (∀ k, k < m → f k < n) → (∀ i j, i < m → j < m → f i = f j → i = j) → m ≤ n
  | 0, m, f, h1, _ => by
    rcases Nat.eq_zero_or_pos m with h | h
    · omega
    · exact absurd (h1 0 h) (Nat.not_lt_zero _)
  | n + 1, m, f, h1, h2 => by
    by_cases hk : ∃ k, k < m ∧ f k = n
    · obtain ⟨k0, hk0, he⟩ := hk
      have := pigeon n (m - 1) (fun k => if k = k0 then f (m - 1) else f k) (fun k hk => by
        have key : ∀ j, j < m → j ≠ k0 → f j < n := fun j hj hne => by
          have := h1 j hj
          have : f j ≠ n := fun q => hne (h2 j k0 hj hk0 (by omega))
          omega
        split
        · exact key _ (by omega) (by omega)
        · exact key _ (by omega) (by assumption)) (fun i j hi hj q => by
        split at q <;> split at q
        · omega
        · have := h2 _ _ (by omega) (by omega) q; omega
        · have := h2 _ _ (by omega) (by omega) q; omega
        · exact h2 _ _ (by omega) (by omega) q)
      omega
    · have := pigeon n m f (fun k hk' => by
        have := h1 k hk'
        have : f k ≠ n := fun q => hk ⟨k, hk', q⟩
        omega) h2
      omega

section
variable {N : Int → Int → Prop} {n s : Nat}
theorem IsDist.pred {d y : Nat} (h : IsDist N n s (d + 1) y) : ∃ x : Nat, x < n ∧ IsDist N n s d x ∧ N x y := by
  obtain ⟨⟨x, hx, hw, hn⟩, h2⟩ := h
  refine ⟨x, hx, ⟨hw, fun e he q => h2 (e + 1) (by omega) ⟨x, hx, q, hn⟩⟩, hn⟩
theorem IsDist.lt {d y : Nat} (hs : s < n) (h : IsDist N n s d y) (hy : y < n) : d < n := by
  have all : ∀ (d y : Nat), y < n → IsDist N n s d y → ∀ k, k ≤ d → ∃ x, x < n ∧ IsDist N n s k x := by
    intro d
    induction d with
    | zero => intro y hy h k hk; exact ⟨y, hy, by rw [show k = 0 by omega]; exact h⟩
    | succ d ih =>
      intro y hy h k hk
      rcases Nat.eq_or_lt_of_le hk with q | q
      · exact ⟨y, hy, by rw [q]; exact h⟩
      · obtain ⟨x, hx, h3, -⟩ := h.pred
        exact ih x hx h3 k (by omega)
  have ch := all d y hy h
  have := Classical.axiomOfChoice (r := fun (k : Nat) (x : Nat) => k ≤ d → x < n ∧ IsDist N n s k x) (fun k => by
    by_cases hk : k ≤ d
    · obtain ⟨x, hx⟩ := ch k hk; exact ⟨x, fun _ => hx⟩
    · exact ⟨0, fun q => absurd q hk⟩)
  obtain ⟨f, hf⟩ := this
  have := pigeon n (d + 1) f (fun k hk => (hf k (by omega)).1) (fun i j hi hj q => by
    have h1 := (hf i (by omega)).2
    have h2 := (hf j (by omega)).2
    rw [q] at h1
    exact h1.unique h2)
  omega

/-- In the level d, the seats before a, and of a those before b, are looked at. -/
structure Lev (N : Int → Int → Prop) (n s d a b : Nat) (l : List Int) : Prop where
  len : l.length = n
  at_ : ∀ y, y < n → (∃ e : Nat, e ≤ d ∧ IsDist N n s e y ∧ l.getD y default = (e : Int)) ∨
    ((¬ ∃ e, e ≤ d ∧ IsDist N n s e y) ∧ (((∃ x, x < n ∧ (x < a ∨ (x = a ∧ y < b)) ∧ IsDist N n s d x ∧ N x y) ∧ l.getD y default = (d : Int) + 1) ∨ ((¬ ∃ x, x < n ∧ (x < a ∨ (x = a ∧ y < b)) ∧ IsDist N n s d x ∧ N x y) ∧ l.getD y default = -1)))
theorem getD_set_int (l : List Int) (i j : Nat) (v : Int) (h : i < l.length) : (l.set i v).getD j default = if j = i then v else l.getD j default := by
  simp only [List.getD_eq_getElem?_getD, List.getElem?_set]
  by_cases hj : j = i
  · subst hj; simp [h]
  · rw [if_neg hj, if_neg (Ne.symm hj)]
theorem Lev.start {l : List Int} (hl : l.length = n) (hs : s < n) (h0 : l.getD s default = 0) (h1 : ∀ y, y < n → y ≠ s → l.getD y default = -1) : Lev N n s 0 0 0 l := by
  refine ⟨hl, fun y hy => ?_⟩
  by_cases q : y = s
  · subst q
    exact .inl ⟨0, Nat.le_refl _, ⟨rfl, fun e he => absurd he (Nat.not_lt_zero _)⟩, h0⟩
  · refine .inr ⟨?_, .inr ⟨?_, h1 y hy q⟩⟩
    · rintro ⟨e, he, h2, -⟩
      obtain rfl : e = 0 := by omega
      exact q h2
    · rintro ⟨x, -, h3, -⟩; omega
theorem Lev.row {d a : Nat} {l : List Int} (L : Lev N n s d a n l) : Lev N n s d (a + 1) 0 l := by
  have he : ∀ y, y < n → ∀ x, (x < a ∨ (x = a ∧ y < n)) ↔ (x < a + 1 ∨ (x = a + 1 ∧ y < 0)) := fun y hy x => by omega
  refine ⟨L.len, fun y hy => ?_⟩
  have := L.at_ y hy
  simp only [he y hy] at this
  exact this
theorem Lev.level {d : Nat} {l : List Int} (L : Lev N n s d n 0 l) : Lev N n s (d + 1) 0 0 l := by
  refine ⟨L.len, fun y hy => ?_⟩
  rcases L.at_ y hy with ⟨e, h1, h2, h3⟩ | ⟨h1, ⟨⟨x, hx, -, h3, h4⟩, h5⟩ | ⟨h2, h3⟩⟩
  · exact .inl ⟨e, by omega, h2, h3⟩
  · refine .inl ⟨d + 1, Nat.le_refl _, ⟨⟨x, hx, h3.1, h4⟩, fun e he q => ?_⟩, by rw [h5]; simp⟩
    obtain ⟨e', q1, q2⟩ := q.least
    exact h1 ⟨e', by omega, q2⟩
  · refine .inr ⟨?_, .inr ⟨?_, h3⟩⟩
    · rintro ⟨e, he, q⟩
      rcases Nat.lt_or_ge d e with q1 | q1
      · obtain rfl : e = d + 1 := by omega
        obtain ⟨x, hx, q2, q3⟩ := q.pred
        exact h2 ⟨x, hx, .inl hx, q2, q3⟩
      · exact h1 ⟨e, q1, q⟩
    · rintro ⟨x, -, h3, -⟩; omega
theorem Lev.is {d a b x : Nat} {l : List Int} (L : Lev N n s d a b l) (hx : x < n) : l.getD x default = (d : Int) ↔ IsDist N n s d x := by
  rcases L.at_ x hx with ⟨e, h1, h2, h3⟩ | ⟨h1, ⟨-, h5⟩ | ⟨-, h3⟩⟩
  · exact ⟨fun q => by rw [h3] at q; have : e = d := by omega
                       rw [← this]; exact h2, fun q => by rw [h3, h2.unique q]⟩
  · exact ⟨fun q => by omega, fun q => absurd ⟨d, Nat.le_refl _, q⟩ h1⟩
  · exact ⟨fun q => by omega, fun q => absurd ⟨d, Nat.le_refl _, q⟩ h1⟩
/-- Nothing is written: the seat is told already, or there is no way over a. -/
theorem Lev.keep {d a b : Nat} {l : List Int} (L : Lev N n s d a b l) (ha : a < n) (hb : b < n) (h : ¬ (l.getD a default = (d : Int) ∧ l.getD b default < 0 ∧ N a b)) : Lev N n s d a (b + 1) l := by
  refine ⟨L.len, fun y hy => ?_⟩
  rcases L.at_ y hy with q | ⟨h1, ⟨⟨x, hx, h2, h3, h4⟩, h5⟩ | ⟨h2, h3⟩⟩
  · exact .inl q
  · exact .inr ⟨h1, .inl ⟨⟨x, hx, by omega, h3, h4⟩, h5⟩⟩
  · refine .inr ⟨h1, .inr ⟨?_, h3⟩⟩
    rintro ⟨x, hx, q1, q2, q3⟩
    by_cases q : x = a ∧ y = b
    · obtain ⟨rfl, rfl⟩ := q
      exact h ⟨(L.is hx).2 q2, by omega, q3⟩
    · exact h2 ⟨x, hx, by omega, q2, q3⟩
theorem Lev.put {d a b : Nat} {l : List Int} (L : Lev N n s d a b l) (ha : a < n) (hb : b < n) (h1 : l.getD a default = (d : Int)) (h2 : l.getD b default < 0) (h3 : N a b) : Lev N n s d a (b + 1) (l.set b ((d : Int) + 1)) := by
  have hda := (L.is ha).1 h1
  refine ⟨by rw [List.length_set]; exact L.len, fun y hy => ?_⟩
  rw [getD_set_int l b y _ (by rw [L.len]; exact hb)]
  rcases L.at_ y hy with ⟨e, g1, g2, g3⟩ | ⟨g1, g2⟩
  · by_cases q : y = b
    · subst q; omega
    · rw [if_neg q]; exact .inl ⟨e, g1, g2, g3⟩
  · by_cases q : y = b
    · subst q
      rw [if_pos rfl]
      exact .inr ⟨g1, .inl ⟨⟨a, ha, by omega, hda, h3⟩, rfl⟩⟩
    · rw [if_neg q]
      rcases g2 with ⟨⟨x, hx, k2, k3, k4⟩, k5⟩ | ⟨k2, k3⟩
      · exact .inr ⟨g1, .inl ⟨⟨x, hx, by omega, k3, k4⟩, k5⟩⟩
      · exact .inr ⟨g1, .inr ⟨fun ⟨x, hx, r1, r2, r3⟩ => k2 ⟨x, hx, by omega, r2, r3⟩, k3⟩⟩
theorem Lev.done {l : List Int} (L : Lev N n s n 0 0 l) (hs : s < n) : DistL N n s l := by
  refine ⟨L.len, fun y hy => ?_⟩
  rcases L.at_ y hy with ⟨e, g1, g2, g3⟩ | ⟨g1, ⟨⟨x, -, k2, -⟩, -⟩ | ⟨k2, k3⟩⟩
  · exact .inr ⟨e, g3, g2⟩
  · omega
  · refine .inl ⟨k3, fun d q => ?_⟩
    obtain ⟨e, q1, q2⟩ := q.least
    exact g1 ⟨e, Nat.le_of_lt (q2.lt hs hy), q2⟩
end
end Go.Proofs.Xx

/-
  The reference's seats across and near; its distances.
-/
namespace Go.Proofs.Xx
open Go Go.Proofs
set_option linter.unusedSimpArgs false
set_option linter.unusedVariables false
set_option maxRecDepth 100000
set_option maxHeartbeats 4000000

def wrp (a p i : Int) : Int := if p + i < a then p + i else p + i - a
end Go.Proofs.Xx

/-
  The reference's distances, honour seats and levels.
-/
namespace Go.Proofs.Xx
open Go Go.Proofs
set_option linter.unusedSimpArgs false
set_option linter.unusedVariables false
set_option maxRecDepth 100000
set_option maxHeartbeats 4000000

def openP (t : Tab) (k : Int) : Prop := ∃ i, i < t.opn.length ∧ t.opn.getD i default = k
def SeatAt (t : Tab) (X Y r : Int) : Prop := (r = -1 ∧ ∀ k : Nat, (k : Int) < tsize t → ¬ (spX t.A t.B k = X ∧ spY t.A t.B k = Y)) ∨ ∃ k : Nat, r = k ∧ (k : Int) < tsize t ∧ (spX t.A t.B k = X ∧ spY t.A t.B k = Y) ∧ ∀ j : Nat, j < k → ¬ (spX t.A t.B j = X ∧ spY t.A t.B j = Y)
end Go.Proofs.Xx

/-
  HallChecks: its contract.
-/
namespace Go.Proofs.Xx
open Go Go.Proofs
set_option linter.unusedSimpArgs false
set_option linter.unusedVariables false
set_option maxRecDepth 100000
set_option maxHeartbeats 1000000

section
variable {l2 l : List Tab}
theorem SameAll.all (s : SameAll l2 l) (i : Nat) : SameTab (tb l2 i) (tb l i) := by
  rcases Nat.lt_or_ge i l2.length with h | h
  · exact s.2 i h
  · have := s.1
    simp only [tb, List.getD_eq_getElem?_getD, List.getElem?_eq_none h, List.getElem?_eq_none (show l.length ≤ i by omega)]
    rfl
theorem SameAll.chk (s : SameAll l2 l) (i : Nat) : chk (tb l2 i) = chk (tb l i) := by have := s.all i; unfold SameTab at this; rw [this]; rfl
theorem SameAll.name (s : SameAll l2 l) (i : Nat) : (tb l2 i).name = (tb l i).name := by have := s.all i; unfold SameTab at this; rw [this]
theorem SameAll.size (s : SameAll l2 l) (i : Nat) : tsize (tb l2 i) = tsize (tb l i) := by have := s.all i; unfold SameTab at this; rw [this]; rfl
theorem SameAll.valid (s : SameAll l2 l) : ValidL l2 ↔ ValidL l := by
  unfold ValidL goodAt dupAt
  simp only [s.chk, s.name, s.1]
theorem SameAll.sum (s : SameAll l2 l) : ∀ n, sumT l2 n = sumT l n
  | 0 => rfl
  | n + 1 => by simp only [sumT, s.sum n, s.size]
theorem SameAll.first (s : SameAll l2 l) (t : Int) : firstV l2 t = firstV l t := by
  unfold firstV
  by_cases q : 0 ≤ t ∧ t < l.length ∧ ValidL l
  · rw [if_pos q, if_pos ⟨q.1, by rw [s.1]; exact q.2.1, s.valid.2 q.2.2⟩, s.sum]
  · rw [if_neg q, if_neg fun k => q ⟨k.1, by rw [← s.1]; exact k.2.1, s.valid.1 k.2.2⟩]
theorem SameAll.seats (s : SameAll l2 l) (i : Nat) : seatsV (tb l2 i) = seatsV (tb l i) := by
  unfold seatsV
  simp only [s.chk, s.size]
def FindR (l : List Tab) (nm : List UInt8) (k2 : Int) (f2 : Bool) : Prop :=
  (f2 = true ∧ ∃ k : Nat, k2 = k ∧ ValidL l ∧ k < l.length ∧ (tb l k).name = nm ∧ ∀ j, j < k → ¬ (tb l j).name = nm) ∨ (f2 = false ∧ k2 = 0 ∧ (¬ ValidL l ∨ ∀ j, j < l.length → ¬ (tb l j).name = nm))
theorem find2_ok {h0 : AH} (w : WfH h0) (v : Value) (l : List Tab) (H : HallR h0 v l) (nm : List UInt8) : Fn Tryz.prog Xh 32 [v, str nm] h0 (fun r h' => ∃ k2 f2, r = .tuple #[.int .i64 k2, .bool f2] ∧ FindR l nm k2 f2 ∧ Hs h0 h' []) := by
  refine (find_ok w v l H nm).mono ?_
  rintro r h ⟨⟨k, rfl, q⟩ | ⟨rfl, q⟩, x⟩
  · exact ⟨_, _, rfl, .inl ⟨rfl, k, rfl, q⟩, x⟩
  · exact ⟨_, _, rfl, .inr ⟨rfl, rfl, q⟩, x⟩
theorem ValidL.one (k : ValidL l) {i j : Nat} (hi : i < l.length) (hj : j < l.length) (h : (tb l i).name = (tb l j).name) : i = j := by
  rcases Nat.lt_trichotomy i j with q | q | q
  · exact absurd ⟨i, q, h⟩ (k.2 j hj).2
  · exact q
  · exact absurd ⟨j, q, h.symm⟩ (k.2 i hi).2
end
theorem awake_ok {h0 : AH} : Fn Tryz.prog Xh 21 [] h0 (fun v h' => v = .bool true ∧ h' = h0) := Fn_known rfl ⟨rfl, rfl⟩

end Go.Proofs.Xx

/-
  Seats by their numbers: the program's questions.
-/
namespace Go.Proofs.Xx
open Go Go.Proofs
set_option linter.unusedSimpArgs false
set_option linter.unusedVariables false
set_option maxRecDepth 100000
set_option maxHeartbeats 4000000

/-- The seat s of the hall is the seat k of the table i. -/
def WhereI (l : List Tab) (s : Int) (i k : Nat) : Prop := ValidL l ∧ i < l.length ∧ (k : Int) < tsize (tb l i) ∧ s = sumT l i + k
theorem sumT_mono (l : List Tab) {i j : Nat} (h : i ≤ j) : sumT l i ≤ sumT l j := by
  induction h with
  | refl => exact Int.le_refl _
  | @step m _ ih => have := tsize_le (tb l m); simp only [sumT]; omega
theorem WhereI.unique {l : List Tab} {s : Int} {i k j m : Nat} (h : WhereI l s i k) (g : WhereI l s j m) : i = j ∧ k = m := by
  obtain ⟨-, h2, h3, h4⟩ := h
  obtain ⟨-, g2, g3, g4⟩ := g
  rcases Nat.lt_trichotomy i j with q | q | q
  · have := sumT_mono l (show i + 1 ≤ j by omega); simp only [sumT] at this; omega
  · subst q; exact ⟨rfl, by omega⟩
  · have := sumT_mono l (show j + 1 ≤ i by omega); simp only [sumT] at this; omega
theorem WhereI.sz {l : List Tab} {s : Int} {i k : Nat} (h : WhereI l s i k) : TabS (tb l i) := TabS.of _ (by have := h.2.2.1; omega)
def WhereR (l : List Tab) (s a b : Int) (f : Bool) : Prop := (f = true ∧ ∃ i k : Nat, a = i ∧ b = k ∧ WhereI l s i k) ∨ (f = false ∧ a = 0 ∧ b = 0 ∧ ∀ i k, ¬ WhereI l s i k)
theorem WhereR.unique {l : List Tab} {s a b a' b' : Int} {f f' : Bool} (h : WhereR l s a b f) (g : WhereR l s a' b' f') : a = a' ∧ b = b' ∧ f = f' := by
  rcases h with ⟨rfl, i, k, rfl, rfl, h⟩ | ⟨rfl, rfl, rfl, h⟩ <;> rcases g with ⟨rfl, j, m, rfl, rfl, g⟩ | ⟨rfl, rfl, rfl, g⟩
  · obtain ⟨rfl, rfl⟩ := h.unique g; exact ⟨rfl, rfl, rfl⟩
  · exact absurd h (g _ _)
  · exact absurd g (h _ _)
  · exact ⟨rfl, rfl, rfl⟩
theorem where_ok {h0 : AH} (w : WfH h0) (v : Value) (l : List Tab) (H : HallR h0 v l) (s : Int) (hm : s ≤ 9223372036854775807) : Fn Tryz.prog Xh 30 [v, .int .i64 s] h0 (fun r h' => ∃ a b f, r = .tuple #[.int .i64 a, .int .i64 b, .bool f] ∧ WhereR l s a b f ∧ Hs h0 h' []) := by
  have S := Hs.start w
  have hl := H.len
  have hr := H.rd
  refine Fn_K rfl Tryz.func30 rfl rfl ?_
  all_goals (repeat' (first | refine K_seq ?_ | refine k_cond rfl ?_ | refine K_skip ?_ | refine K_exit ?_ | refine k_block ?_ | refine K_scope ?_ | (refine K_region (id := 0) ?_; refine mv ?_; refine mv ?_; refine mv ?_; refine KO_nil ?_) | (refine K_region (id := 1) ?_; refine mv ?_; (first | refine cT ?_ | refine cF ?_ | (refine cS ?_ ?_ <;> intro hc)) <;> (refine mv ?_; (first | refine off ?_ | refine mv ?_); (first | (refine off ?_; (first | refine off ?_ | refine vl ?_); refine vl ?_; refine KO_nil ?_) | skip))) | (refine K_region (id := 2) ?_; refine mv ?_; refine mv ?_; refine mv ?_; refine KO_nil ?_) | (refine K_region (id := 3) ?_; refine mv ?_; (first | refine lnB S ?_ | refine lnS S rfl rfl ?_); refine mv ?_; refine KO_nil ?_)))
  · refine K_ret ⟨_, rfl, ?_⟩
    exact ⟨0, 0, false, rfl, .inr ⟨rfl, rfl, rfl, fun i k q => by have := sumT_le l i; have := q.2.2.2; omega⟩, S⟩
  · (refine KO_fn rfl rfl rfl rfl rfl ((valid_ok S.wf v l H).mono ?_); rintro _ h ⟨⟨rfl, hq⟩ | ⟨rfl, hq⟩, x⟩) <;> (replace S := S.join0 x; clear x; (first | refine off ?_ | refine vl ?_); refine vl ?_; refine KO_nil ?_)
    all_goals (repeat' (first | refine K_seq ?_ | refine k_cond rfl ?_ | refine K_skip ?_ | refine K_exit ?_ | refine k_block ?_ | refine K_scope ?_ | (refine K_region (id := 2) ?_; refine mv ?_; refine mv ?_; refine mv ?_; refine KO_nil ?_) | (refine K_region (id := 3) ?_; refine mv ?_; (first | refine lnB S ?_ | refine lnS S rfl rfl ?_); refine mv ?_; refine KO_nil ?_)))
    · have z0 : sumT l 0 = 0 := rfl
      refine k_loop (σ := Nat) (fun i h' => Hs h0 h' [] ∧ i ≤ l.length ∧ 0 ≤ s - sumT l i) (fun i => l.length - i) (fun i => [(1, .int .i64 (s - sumT l i)), (17, v), (18, .int .i64 l.length), (19, .int .i64 i)]) 0 (by repeat (first | exact Ks.le_nil _ | refine Ks.le_cons rfl ?_ | refine Ks.le_int ?_)) ?_ ?_
      · exact ⟨S, Nat.zero_le _, by simp only [sumT]; omega⟩
      · clear S
        rintro i h ⟨S, h1, h2⟩
        all_goals (repeat' (first | refine K_seq ?_ | refine k_cond rfl ?_ | refine K_skip ?_ | refine K_exit ?_ | refine k_block ?_ | refine K_scope ?_ | (refine K_region (id := 4) ?_; (first | refine cT ?_ | refine cF ?_ | (refine cS ?_ ?_ <;> intro hc)) <;> (refine KO_nil ?_)) | (refine K_region (id := 5) ?_; refine mv ?_; (first | refine ixB S ?_ | refine ixS S rfl rfl ?_); (first | refine lB S rfl rfl ?_ | refine lES S rfl rfl ?_ | refine lEB S ?_ | refine lH S ?_); (refine al S ?_; clear S; intro b h S); refine mv ?_; (first | (refine sB S rfl rfl ?_; clear S; intro h S) | (refine sE S rfl rfl ?_; clear S; intro h S)); refine KO_nil ?_) | (refine K_region (id := 6) ?_; (first | refine lB S rfl rfl ?_ | refine lES S rfl rfl ?_ | refine lEB S ?_ | refine lH S ?_)) | (refine K_region (id := 11) ?_; refine mv ?_; refine mv ?_; refine mv ?_; refine KO_nil ?_)))
        · (try simp only [Int.toNat_natCast] at *)
          have hi : i < l.length := by omega
          have b2 := tsize_le (tb l i)
          have b1 := sumT_le l i
          have z1 : sumT l (i + 1) = sumT l i + tsize (tb l i) := rfl
          (refine KO_fn rfl rfl rfl rfl rfl ((size_ok S.wf (tb l i)).mono ?_); rintro _ h ⟨rfl, x⟩) <;> (replace S := S.join0 x; clear x; refine mv ?_; refine KO_nil ?_)
          all_goals (repeat' (first | refine K_seq ?_ | refine k_cond rfl ?_ | refine K_skip ?_ | refine K_exit ?_ | refine k_block ?_ | refine K_scope ?_ | (refine K_region (id := 7) ?_; refine mv ?_; refine mv ?_; (first | refine cT ?_ | refine cF ?_ | (refine cS ?_ ?_ <;> intro hc)) <;> (refine KO_nil ?_)) | (refine K_region (id := 8) ?_; refine mv ?_; refine mv ?_; refine mv ?_; refine mv ?_; refine mv ?_; refine KO_nil ?_) | (refine K_region (id := 9) ?_; refine mv ?_; refine mv ?_; (first | refine sb ?_ | refine vl ?_); refine mv ?_; refine KO_nil ?_) | (refine K_region (id := 10) ?_; (first | refine ad ?_ | refine vl ?_); refine mv ?_; refine KO_nil ?_)))
          · refine K_ret ⟨_, rfl, ?_⟩
            obtain ⟨k, hk⟩ := Int.eq_ofNat_of_zero_le h2
            exact ⟨i, s - sumT l i, true, rfl, .inl ⟨rfl, i, k, rfl, hk, hq, hi, by omega, by omega⟩, S.drop⟩
          · refine ⟨i + 1, ?_, ?_, (by repeat (first | exact Ks.le_nil _ | refine Ks.le_cons rfl ?_ | refine Ks.le_int ?_))⟩
            · show l.length - (i + 1) < l.length - i; omega
            · exact ⟨S.drop, by omega, by simp only [sumT]; omega⟩
        · refine K_ret ⟨_, rfl, ?_⟩
          refine ⟨0, 0, false, rfl, .inr ⟨rfl, rfl, rfl, fun j k q => ?_⟩, S⟩
          obtain ⟨-, q2, q3, q4⟩ := q
          have hil : i = l.length := by omega
          subst hil
          have := sumT_mono l (show j + 1 ≤ l.length by omega)
          simp only [sumT] at this
          omega
    · refine K_ret ⟨_, rfl, ?_⟩
      exact ⟨0, 0, false, rfl, .inr ⟨rfl, rfl, rfl, fun i k q => hq q.1⟩, S⟩

def PairR (l : List Tab) (a b : Int) (t : Tab) (x y : Int) (f : Bool) : Prop := (f = true ∧ ∃ i k m : Nat, t = tb l i ∧ x = k ∧ y = m ∧ WhereI l a i k ∧ WhereI l b i m) ∨ (f = false ∧ t = default ∧ x = 0 ∧ y = 0 ∧ ∀ i k m, WhereI l a i k → ¬ WhereI l b i m)
theorem pair_ok {h0 : AH} (w : WfH h0) (v : Value) (l : List Tab) (H : HallR h0 v l) (a b : Int) (ha : a ≤ 9223372036854775807) (hb : b ≤ 9223372036854775807) :
    Fn Tryz.prog Xh 92 [v, .int .i64 a, .int .i64 b] h0 (fun r h' => ∃ t x y f, r = .tuple #[tabV t, .int .i64 x, .int .i64 y, .bool f] ∧ PairR l a b t x y f ∧ Hs h0 h' []) := by
  have S := Hs.start w
  have hl := H.len
  have hr := H.rd
  refine Fn_K rfl Tryz.func92 rfl rfl ?_
  all_goals (repeat' (first | refine K_seq ?_ | refine k_cond rfl ?_ | refine K_skip ?_ | refine K_exit ?_ | refine k_block ?_ | refine K_scope ?_ | (refine K_region (id := 0) ?_; (refine al S ?_; clear S; intro b h S); refine mv ?_; refine mv ?_; refine mv ?_; refine KO_nil ?_) | (refine K_region (id := 1) ?_; refine mv ?_; refine mv ?_)))
  obtain ⟨bt, hnm⟩ : ∃ x, x = b := ⟨_, rfl⟩; subst hnm
  (refine KO_fn rfl rfl rfl rfl rfl ((where_ok S.wf v l (H.ext w S.ext) a ha).mono ?_); rintro _ h ⟨_, _, _, rfl, ⟨rfl, i, k, rfl, rfl, w1⟩ | ⟨rfl, rfl, rfl, w1⟩, x⟩) <;> (replace S := S.join0 x; clear x; refine mv ?_; refine vl ?_; refine vl ?_; refine vl ?_; refine mv ?_; refine mv ?_; refine mv ?_; refine KO_nil ?_)
  all_goals (all_goals (repeat' (first | refine K_seq ?_ | refine k_cond rfl ?_ | refine K_skip ?_ | refine K_exit ?_ | refine k_block ?_ | refine K_scope ?_ | (refine K_region (id := 2) ?_; refine mv ?_; refine mv ?_))))
  all_goals ((refine KO_fn rfl rfl rfl rfl rfl ((where_ok S.wf v l (H.ext w S.ext) b hb).mono ?_); rintro _ h ⟨_, _, _, rfl, ⟨rfl, j, m, rfl, rfl, w2⟩ | ⟨rfl, rfl, rfl, w2⟩, x⟩) <;> (replace S := S.join0 x; clear x; refine mv ?_; refine vl ?_; refine vl ?_; refine vl ?_; refine mv ?_; refine mv ?_; refine mv ?_; refine KO_nil ?_))
  · have hi := w1.2.1
    all_goals (repeat' (first | refine K_seq ?_ | refine k_cond rfl ?_ | refine K_skip ?_ | refine K_exit ?_ | refine k_block ?_ | refine K_scope ?_ | (refine K_region (id := 3) ?_; refine mv ?_; refine vl ?_; refine mv ?_; (first | refine off ?_ | refine mv ?_); (first | refine off ?_ | refine vl ?_); refine vl ?_; refine mv ?_; (first | refine off ?_ | refine mv ?_); (first | refine off ?_ | refine mv ?_); (first | refine off ?_ | (first | refine cT ?_ | refine cF ?_ | (refine cS ?_ ?_ <;> intro hc))) <;> (refine vl ?_; refine KO_nil ?_)) | (refine K_region (id := 4) ?_; refine vl ?_; (first | (refine sB S rfl rfl ?_; clear S; intro h S) | (refine sE S rfl rfl ?_; clear S; intro h S)); refine mv ?_; refine mv ?_; refine mv ?_; refine KO_nil ?_) | (refine K_region (id := 5) ?_; refine mv ?_; refine mv ?_; (first | refine ixB S ?_ | refine ixS S rfl rfl ?_); (first | refine lB S rfl rfl ?_ | refine lES S rfl rfl ?_ | refine lEB S ?_ | refine lH S ?_); refine mv ?_; refine mv ?_; (first | (refine sB S rfl rfl ?_; clear S; intro h S) | (refine sE S rfl rfl ?_; clear S; intro h S)); refine mv ?_; refine mv ?_; refine mv ?_; refine KO_nil ?_)))
    · refine K_ret ⟨_, ret_cell S rfl (by first | exact .here | exact .there .here | exact .there (.there .here)) (by exact rfl) (by exact rfl), ?_⟩
      refine ⟨default, 0, 0, false, rfl, .inr ⟨rfl, rfl, rfl, rfl, fun i' k' m' q1 q2 => ?_⟩, S.drop⟩
      obtain ⟨rfl, rfl⟩ := w1.unique q1
      obtain ⟨rfl, rfl⟩ := w2.unique q2
      exact hc rfl
    · have hij : i = j := by omega
      subst hij
      refine K_ret ⟨_, ret_cell S rfl (by first | exact .here | exact .there .here | exact .there (.there .here)) (by exact rfl) (by exact rfl), ?_⟩
      exact ⟨tb l i, k, m, true, rfl, .inl ⟨rfl, i, k, m, rfl, rfl, rfl, w1, w2⟩, S.drop⟩
  · all_goals (repeat' (first | refine K_seq ?_ | refine k_cond rfl ?_ | refine K_skip ?_ | refine K_exit ?_ | refine k_block ?_ | refine K_scope ?_ | (refine K_region (id := 3) ?_; refine mv ?_; refine vl ?_; refine mv ?_; (first | refine off ?_ | refine mv ?_); (first | refine off ?_ | refine vl ?_); refine vl ?_; refine mv ?_; (first | refine off ?_ | refine mv ?_); (first | refine off ?_ | refine mv ?_); (first | refine off ?_ | (first | refine cT ?_ | refine cF ?_ | (refine cS ?_ ?_ <;> intro hc))) <;> (refine vl ?_; refine KO_nil ?_)) | (refine K_region (id := 4) ?_; refine vl ?_; (first | (refine sB S rfl rfl ?_; clear S; intro h S) | (refine sE S rfl rfl ?_; clear S; intro h S)); refine mv ?_; refine mv ?_; refine mv ?_; refine KO_nil ?_) | (refine K_region (id := 5) ?_; refine mv ?_; refine mv ?_; (first | refine ixB S ?_ | refine ixS S rfl rfl ?_); (first | refine lB S rfl rfl ?_ | refine lES S rfl rfl ?_ | refine lEB S ?_ | refine lH S ?_); refine mv ?_; refine mv ?_; (first | (refine sB S rfl rfl ?_; clear S; intro h S) | (refine sE S rfl rfl ?_; clear S; intro h S)); refine mv ?_; refine mv ?_; refine mv ?_; refine KO_nil ?_)))
    refine K_ret ⟨_, ret_cell S rfl (by first | exact .here | exact .there .here | exact .there (.there .here)) (by exact rfl) (by exact rfl), ?_⟩
    exact ⟨default, 0, 0, false, rfl, .inr ⟨rfl, rfl, rfl, rfl, fun i' k' m' q1 q2 => w2 _ _ q2⟩, S.drop⟩
  · all_goals (repeat' (first | refine K_seq ?_ | refine k_cond rfl ?_ | refine K_skip ?_ | refine K_exit ?_ | refine k_block ?_ | refine K_scope ?_ | (refine K_region (id := 3) ?_; refine mv ?_; refine vl ?_; refine mv ?_; (first | refine off ?_ | refine mv ?_); (first | refine off ?_ | refine vl ?_); refine vl ?_; refine mv ?_; (first | refine off ?_ | refine mv ?_); (first | refine off ?_ | refine mv ?_); (first | refine off ?_ | (first | refine cT ?_ | refine cF ?_ | (refine cS ?_ ?_ <;> intro hc))) <;> (refine vl ?_; refine KO_nil ?_)) | (refine K_region (id := 4) ?_; refine vl ?_; (first | (refine sB S rfl rfl ?_; clear S; intro h S) | (refine sE S rfl rfl ?_; clear S; intro h S)); refine mv ?_; refine mv ?_; refine mv ?_; refine KO_nil ?_) | (refine K_region (id := 5) ?_; refine mv ?_; refine mv ?_; (first | refine ixB S ?_ | refine ixS S rfl rfl ?_); (first | refine lB S rfl rfl ?_ | refine lES S rfl rfl ?_ | refine lEB S ?_ | refine lH S ?_); refine mv ?_; refine mv ?_; (first | (refine sB S rfl rfl ?_; clear S; intro h S) | (refine sE S rfl rfl ?_; clear S; intro h S)); refine mv ?_; refine mv ?_; refine mv ?_; refine KO_nil ?_)))
    refine K_ret ⟨_, ret_cell S rfl (by first | exact .here | exact .there .here | exact .there (.there .here)) (by exact rfl) (by exact rfl), ?_⟩
    exact ⟨default, 0, 0, false, rfl, .inr ⟨rfl, rfl, rfl, rfl, fun i' k' m' q1 q2 => w1 _ _ q1⟩, S.drop⟩
  · all_goals (repeat' (first | refine K_seq ?_ | refine k_cond rfl ?_ | refine K_skip ?_ | refine K_exit ?_ | refine k_block ?_ | refine K_scope ?_ | (refine K_region (id := 3) ?_; refine mv ?_; refine vl ?_; refine mv ?_; (first | refine off ?_ | refine mv ?_); (first | refine off ?_ | refine vl ?_); refine vl ?_; refine mv ?_; (first | refine off ?_ | refine mv ?_); (first | refine off ?_ | refine mv ?_); (first | refine off ?_ | (first | refine cT ?_ | refine cF ?_ | (refine cS ?_ ?_ <;> intro hc))) <;> (refine vl ?_; refine KO_nil ?_)) | (refine K_region (id := 4) ?_; refine vl ?_; (first | (refine sB S rfl rfl ?_; clear S; intro h S) | (refine sE S rfl rfl ?_; clear S; intro h S)); refine mv ?_; refine mv ?_; refine mv ?_; refine KO_nil ?_) | (refine K_region (id := 5) ?_; refine mv ?_; refine mv ?_; (first | refine ixB S ?_ | refine ixS S rfl rfl ?_); (first | refine lB S rfl rfl ?_ | refine lES S rfl rfl ?_ | refine lEB S ?_ | refine lH S ?_); refine mv ?_; refine mv ?_; (first | (refine sB S rfl rfl ?_; clear S; intro h S) | (refine sE S rfl rfl ?_; clear S; intro h S)); refine mv ?_; refine mv ?_; refine mv ?_; refine KO_nil ?_)))
    refine K_ret ⟨_, ret_cell S rfl (by first | exact .here | exact .there .here | exact .there (.there .here)) (by exact rfl) (by exact rfl), ?_⟩
    exact ⟨default, 0, 0, false, rfl, .inr ⟨rfl, rfl, rfl, rfl, fun i' k' m' q1 q2 => w1 _ _ q1⟩, S.drop⟩
/-- Of two seats of one table P holds. -/
def BothP (P : Tab → Int → Int → Prop) (l : List Tab) (a b : Int) : Prop := ∃ i k m : Nat, WhereI l a i k ∧ WhereI l b i m ∧ P (tb l i) k m
theorem hallNear_ok {h0 : AH} (w : WfH h0) (v : Value) (l : List Tab) (H : HallR h0 v l) (a b : Int) (ha : a ≤ 9223372036854775807) (hb : b ≤ 9223372036854775807) :
    Fn Tryz.prog Xh 43 [v, .int .i64 a, .int .i64 b] h0 (fun r h' => BoolIs r (BothP nearP l a b) ∧ Hs h0 h' []) := by
  have S := Hs.start w
  refine Fn_K rfl Tryz.func43 rfl rfl ?_
  all_goals (repeat' (first | refine K_seq ?_ | refine k_cond rfl ?_ | refine K_skip ?_ | refine K_exit ?_ | refine k_block ?_ | refine K_scope ?_ | (refine K_region (id := 0) ?_; refine mv ?_; refine KO_nil ?_) | (refine K_region (id := 1) ?_; refine mv ?_; refine mv ?_; refine mv ?_; skip)))
  (refine KO_fn rfl rfl rfl rfl rfl ((pair_ok S.wf v l H a b ha hb).mono ?_); rintro _ h ⟨_, _, _, _, rfl, ⟨rfl, i, k, m, rfl, rfl, rfl, w1, w2⟩ | ⟨rfl, rfl, rfl, rfl, w1⟩, x⟩) <;> (replace S := S.join0 x; clear x; refine mv ?_; refine vl ?_; refine vl ?_; refine vl ?_; refine vl ?_; (refine al S ?_; clear S; intro b h S); (first | (refine sB S rfl rfl ?_; clear S; intro h S) | (refine sE S rfl rfl ?_; clear S; intro h S)); refine mv ?_; refine mv ?_; refine mv ?_; refine KO_nil ?_)
  · all_goals (repeat' (first | refine K_seq ?_ | refine k_cond rfl ?_ | refine K_skip ?_ | refine K_exit ?_ | refine k_block ?_ | refine K_scope ?_ | (refine K_region (id := 2) ?_; refine mv ?_; refine mv ?_; (first | refine off ?_ | (first | refine lB S rfl rfl ?_ | refine lES S rfl rfl ?_ | refine lEB S ?_ | refine lH S ?_)); (first | refine off ?_ | refine mv ?_); (first | refine off ?_ | refine mv ?_); (first | (refine off ?_; refine vl ?_; refine mv ?_; refine KO_nil ?_) | skip))))
    have t1 := tsize_le (tb l i)
    have k1 := w1.2.2.1
    have k2 := w2.2.2.1
    (refine KO_fn rfl rfl rfl rfl rfl ((near_ok S.wf (tb l i) k m w1.sz.b (by omega) (by omega)).mono ?_); rintro _ h ⟨⟨rfl, hq⟩ | ⟨rfl, hq⟩, x⟩) <;> (replace S := S.join0 x; clear x; refine vl ?_; refine mv ?_; refine KO_nil ?_)
    all_goals (repeat' (first | refine K_seq ?_ | refine k_cond rfl ?_ | refine K_skip ?_ | refine K_exit ?_ | refine k_block ?_ | refine K_scope ?_))
    all_goals (refine K_ret ⟨_, rfl, ?_⟩)
    · exact ⟨.inl ⟨rfl, i, k, m, w1, w2, hq⟩, S.drop⟩
    · refine ⟨.inr ⟨rfl, fun ⟨i', k', m', q1, q2, q3⟩ => ?_⟩, S.drop⟩
      obtain ⟨rfl, rfl⟩ := w1.unique q1
      obtain ⟨-, rfl⟩ := w2.unique q2
      exact hq q3
  · all_goals (repeat' (first | refine K_seq ?_ | refine k_cond rfl ?_ | refine K_skip ?_ | refine K_exit ?_ | refine k_block ?_ | refine K_scope ?_ | (refine K_region (id := 2) ?_; refine mv ?_; refine mv ?_; (first | refine off ?_ | (first | refine lB S rfl rfl ?_ | refine lES S rfl rfl ?_ | refine lEB S ?_ | refine lH S ?_)); (first | refine off ?_ | refine mv ?_); (first | refine off ?_ | refine mv ?_); (first | (refine off ?_; refine vl ?_; refine mv ?_; refine KO_nil ?_) | skip))))
    refine K_ret ⟨_, rfl, ?_⟩
    exact ⟨.inr ⟨rfl, fun ⟨i', k', m', q1, q2, q3⟩ => w1 _ _ _ q1 q2⟩, S.drop⟩

def DistR (l : List Tab) (a b d : Int) (f : Bool) : Prop := (f = true ∧ ∃ (i k m : Nat) (e : Nat), WhereI l a i k ∧ WhereI l b i m ∧ d = e ∧ IsDist (nearP (tb l i)) (tsize (tb l i)).toNat k e m) ∨ (f = false ∧ d = 0 ∧ ∀ i k m e, WhereI l a i k → WhereI l b i m → ¬ IsDist (nearP (tb l i)) (tsize (tb l i)).toNat k e m)
theorem hallDistance_ok {h0 : AH} (w : WfH h0) (v : Value) (l : List Tab) (H : HallR h0 v l) (a b : Int) (ha : a ≤ 9223372036854775807) (hb : b ≤ 9223372036854775807) :
    Fn Tryz.prog Xh 37 [v, .int .i64 a, .int .i64 b] h0 (fun r h' => ∃ d f, r = .tuple #[.int .i64 d, .bool f] ∧ DistR l a b d f ∧ Hs h0 h' []) := by
  have S := Hs.start w
  refine Fn_K rfl Tryz.func37 rfl rfl ?_
  all_goals (repeat' (first | refine K_seq ?_ | refine k_cond rfl ?_ | refine K_skip ?_ | refine K_exit ?_ | refine k_block ?_ | refine K_scope ?_ | (refine K_region (id := 0) ?_; refine mv ?_; refine mv ?_; refine KO_nil ?_) | (refine K_region (id := 1) ?_; refine mv ?_; refine mv ?_; refine mv ?_; skip)))
  (refine KO_fn rfl rfl rfl rfl rfl ((pair_ok S.wf v l H a b ha hb).mono ?_); rintro _ h ⟨_, _, _, _, rfl, ⟨rfl, i, k, m, rfl, rfl, rfl, w1, w2⟩ | ⟨rfl, rfl, rfl, rfl, w1⟩, x⟩) <;> (replace S := S.join0 x; clear x; refine mv ?_; refine vl ?_; refine vl ?_; refine vl ?_; refine vl ?_; (refine al S ?_; clear S; intro b h S); (first | (refine sB S rfl rfl ?_; clear S; intro h S) | (refine sE S rfl rfl ?_; clear S; intro h S)); refine mv ?_; refine mv ?_; refine mv ?_; refine KO_nil ?_)
  · all_goals (repeat' (first | refine K_seq ?_ | refine k_cond rfl ?_ | refine K_skip ?_ | refine K_exit ?_ | refine k_block ?_ | refine K_scope ?_ | (refine K_region (id := 2) ?_; refine mv ?_; refine vl ?_; refine KO_nil ?_) | (refine K_region (id := 3) ?_; refine mv ?_; refine mv ?_; refine KO_nil ?_) | (refine K_region (id := 4) ?_; (first | refine lB S rfl rfl ?_ | refine lES S rfl rfl ?_ | refine lEB S ?_ | refine lH S ?_); refine mv ?_)))
    have t1 := tsize_le (tb l i)
    have k1 := w1.2.2.1
    have k2 := w2.2.2.1
    obtain ⟨n, hn⟩ := Int.eq_ofNat_of_zero_le t1.1
    have hnn : (tsize (tb l i)).toNat = n := by omega
    (refine KO_fn rfl rfl rfl rfl rfl ((steps_ok S.wf (tb l i) k n w1.sz.b hn (by omega) (by omega)).mono ?_); rintro vd h ⟨ld, hd, x⟩) <;> (replace S := S.join1 x; clear x; have hdl := hd.1; refine mv ?_; (first | refine ixB S ?_ | refine ixS S rfl rfl ?_); (first | refine lB S rfl rfl ?_ | refine lES S rfl rfl ?_ | refine lEB S ?_ | refine lH S ?_); refine mv ?_; refine KO_nil ?_)
    all_goals (repeat' (first | refine K_seq ?_ | refine k_cond rfl ?_ | refine K_skip ?_ | refine K_exit ?_ | refine k_block ?_ | refine K_scope ?_ | (refine K_region (id := 5) ?_; refine mv ?_; (first | refine cT ?_ | refine cF ?_ | (refine cS ?_ ?_ <;> intro hc)) <;> (refine KO_nil ?_)) | (refine K_region (id := 6) ?_; refine mv ?_; refine mv ?_; refine mv ?_; refine KO_nil ?_) | (refine K_region (id := 7) ?_; refine mv ?_; refine mv ?_; refine KO_nil ?_)))
    all_goals (try simp only [Int.toNat_natCast] at *)
    · refine K_ret ⟨_, rfl, ?_⟩
      rcases hd.2 m (by omega) with ⟨g, -⟩ | ⟨e, g1, g2⟩
      · omega
      · exact ⟨_, true, rfl, .inl ⟨rfl, i, k, m, e, w1, w2, g1, by rw [hnn]; exact g2⟩, S.drop⟩
    · refine K_ret ⟨_, rfl, ?_⟩
      refine ⟨0, false, rfl, .inr ⟨rfl, rfl, fun i' k' m' e' q1 q2 q3 => ?_⟩, S.drop⟩
      obtain ⟨rfl, rfl⟩ := w1.unique q1
      obtain ⟨-, rfl⟩ := w2.unique q2
      rw [hnn] at q3
      rcases hd.2 m (by omega) with ⟨-, g⟩ | ⟨e, g1, g2⟩
      · exact g _ q3.1
      · omega
  · all_goals (repeat' (first | refine K_seq ?_ | refine k_cond rfl ?_ | refine K_skip ?_ | refine K_exit ?_ | refine k_block ?_ | refine K_scope ?_ | (refine K_region (id := 2) ?_; refine mv ?_; refine vl ?_; refine KO_nil ?_) | (refine K_region (id := 3) ?_; refine mv ?_; refine mv ?_; refine KO_nil ?_)))
    refine K_ret ⟨_, rfl, ?_⟩
    exact ⟨0, false, rfl, .inr ⟨rfl, rfl, fun i' k' m' e' q1 q2 q3 => w1 _ _ _ q1 q2⟩, S.drop⟩

def LevR (l : List Tab) (a v : Int) : Prop := (∃ (i k : Nat) (ld : List Int), WhereI l a i k ∧ DistL (nearP (tb l i)) (tsize (tb l i)).toNat (tHon (tb l i)).toNat ld ∧ v = (lvl (tsize (tb l i)).toNat ld).getD k default) ∨ (v = 0 ∧ ∀ i k, ¬ WhereI l a i k)
theorem hallLevel_ok {h0 : AH} (w : WfH h0) (v : Value) (l : List Tab) (H : HallR h0 v l) (a : Int) (ha : a ≤ 9223372036854775807) :
    Fn Tryz.prog Xh 35 [v, .int .i64 a] h0 (fun r h' => ∃ d, r = .int .i64 d ∧ LevR l a d ∧ Hs h0 h' []) := by
  have S := Hs.start w
  have hr := H.rd
  have hl := H.len
  refine Fn_K rfl Tryz.func35 rfl rfl ?_
  all_goals (repeat' (first | refine K_seq ?_ | refine k_cond rfl ?_ | refine K_skip ?_ | refine K_exit ?_ | refine k_block ?_ | refine K_scope ?_ | (refine K_region (id := 0) ?_; refine mv ?_; refine KO_nil ?_) | (refine K_region (id := 1) ?_; refine mv ?_; refine mv ?_)))
  (refine KO_fn rfl rfl rfl rfl rfl ((where_ok S.wf v l H a ha).mono ?_); rintro _ h ⟨_, _, _, rfl, ⟨rfl, i, k, rfl, rfl, w1⟩ | ⟨rfl, rfl, rfl, w1⟩, x⟩) <;> (replace S := S.join0 x; clear x; refine mv ?_; refine vl ?_; refine vl ?_; refine vl ?_; refine mv ?_; refine mv ?_; refine mv ?_; refine KO_nil ?_)
  · have hi := w1.2.1
    have t1 := tsize_le (tb l i)
    have k1 := w1.2.2.1
    obtain ⟨n, hn⟩ := Int.eq_ofNat_of_zero_le t1.1
    have hnn : (tsize (tb l i)).toNat = n := by omega
    all_goals (repeat' (first | refine K_seq ?_ | refine k_cond rfl ?_ | refine K_skip ?_ | refine K_exit ?_ | refine k_block ?_ | refine K_scope ?_ | (refine K_region (id := 2) ?_; refine mv ?_; refine vl ?_; refine KO_nil ?_) | (refine K_region (id := 3) ?_; refine mv ?_; refine KO_nil ?_) | (refine K_region (id := 4) ?_; refine mv ?_; refine mv ?_; (first | refine ixB S ?_ | refine ixS S rfl rfl ?_); (first | refine lB S rfl rfl ?_ | refine lES S rfl rfl ?_ | refine lEB S ?_ | refine lH S ?_))))
    (try simp only [Int.toNat_natCast] at *)
    (refine KO_fn rfl rfl rfl rfl rfl ((levels_ok S.wf (tb l i) n w1.sz.b hn (by omega) (by omega)).mono ?_); rintro vd h ⟨ld, hd, x⟩) <;> (replace S := S.join1 x; clear x; have hdl := hd.1; have hdm : (lvl n ld).length = ld.length := List.length_map ..; refine mv ?_; (first | refine ixB S ?_ | refine ixS S rfl rfl ?_); (first | refine lB S rfl rfl ?_ | refine lES S rfl rfl ?_ | refine lEB S ?_ | refine lH S ?_); refine mv ?_; refine KO_nil ?_)
    all_goals (repeat' (first | refine K_seq ?_ | refine k_cond rfl ?_ | refine K_skip ?_ | refine K_exit ?_ | refine k_block ?_ | refine K_scope ?_))
    refine K_ret ⟨_, rfl, ?_⟩
    exact ⟨_, rfl, .inl ⟨i, k, ld, w1, by rw [hnn]; exact hd, by rw [hnn, Int.toNat_natCast]⟩, S.drop⟩
  · all_goals (repeat' (first | refine K_seq ?_ | refine k_cond rfl ?_ | refine K_skip ?_ | refine K_exit ?_ | refine k_block ?_ | refine K_scope ?_ | (refine K_region (id := 2) ?_; refine mv ?_; refine vl ?_; refine KO_nil ?_) | (refine K_region (id := 3) ?_; refine mv ?_; refine KO_nil ?_)))
    refine K_ret ⟨_, rfl, ?_⟩
    exact ⟨0, rfl, .inr ⟨rfl, w1⟩, S⟩

theorem index_ok {h0 : AH} (w : WfH h0) (v : Value) (l : List Int) (hr : RdL h0 v 1 eI l) (hl : l.length ≤ 1000000) (k : Int) : Fn Tryz.prog Xh 105 [v, .int .i64 k] h0 (fun r h' => IdxIs r (fun i => l.getD i default = k) l.length ∧ Hs h0 h' []) := by
  have S := Hs.start w
  refine Fn_K rfl Tryz.func105 rfl rfl ?_
  all_goals (repeat' (first | refine K_seq ?_ | refine k_cond rfl ?_ | refine K_skip ?_ | refine K_exit ?_ | refine k_block ?_ | refine K_scope ?_ | (refine K_region (id := 0) ?_; refine mv ?_; refine KO_nil ?_) | (refine K_region (id := 1) ?_; refine mv ?_; (first | refine lnB S ?_ | refine lnS S rfl rfl ?_); refine mv ?_; refine KO_nil ?_)))
  refine k_loop (σ := Nat) (fun i h' => Hs h0 h' [] ∧ i ≤ l.length ∧ ∀ j, j < i → ¬ l.getD j default = k) (fun i => l.length - i) (fun i => [(0, v), (1, .int .i64 k), (7, .int .i64 l.length), (8, .int .i64 i)]) 0 (by repeat (first | exact Ks.le_nil _ | refine Ks.le_cons rfl ?_ | refine Ks.le_int ?_)) ?_ ?_
  · exact ⟨S, Nat.zero_le _, fun j hj => absurd hj (Nat.not_lt_zero _)⟩
  clear S
  rintro i h ⟨S, h1, h2⟩
  all_goals (repeat' (first | refine K_seq ?_ | refine k_cond rfl ?_ | refine K_skip ?_ | refine K_exit ?_ | refine k_block ?_ | refine K_scope ?_ | (refine K_region (id := 2) ?_; (first | refine cT ?_ | refine cF ?_ | (refine cS ?_ ?_ <;> intro hc)) <;> (refine KO_nil ?_)) | (refine K_region (id := 3) ?_; refine mv ?_; refine mv ?_; refine KO_nil ?_) | (refine K_region (id := 4) ?_; refine mv ?_; refine mv ?_; refine mv ?_; (first | refine ixB S ?_ | refine ixS S rfl rfl ?_); (first | refine lB S rfl rfl ?_ | refine lES S rfl rfl ?_ | refine lEB S ?_ | refine lH S ?_); (first | refine cT ?_ | refine cF ?_ | (refine cS ?_ ?_ <;> intro hc)) <;> (refine KO_nil ?_)) | (refine K_region (id := 5) ?_; refine mv ?_; refine mv ?_; refine KO_nil ?_) | (refine K_region (id := 6) ?_; (first | refine ad ?_ | refine vl ?_); refine mv ?_; refine KO_nil ?_) | (refine K_region (id := 7) ?_; refine mv ?_; refine KO_nil ?_)))
  all_goals (try simp only [Int.toNat_natCast] at *)
  · refine K_ret ⟨_, rfl, ?_⟩
    exact ⟨.inl ⟨i, by omega, rfl, hc.symm, h2⟩, S⟩
  · refine ⟨i + 1, ?_, ?_, (by repeat (first | exact Ks.le_nil _ | refine Ks.le_cons rfl ?_ | refine Ks.le_int ?_))⟩
    · show l.length - (i + 1) < l.length - i; omega
    · refine ⟨S, by omega, fun j hj => ?_⟩
      rcases Nat.lt_or_ge j i with q | q
      · exact h2 j q
      · obtain rfl : j = i := by omega
        exact fun q => hc q.symm
  · refine K_ret ⟨_, rfl, ?_⟩
    exact ⟨.inr ⟨rfl, fun j hj => h2 j (by omega)⟩, S⟩
theorem containsI_ok {h0 : AH} (w : WfH h0) (v : Value) (l : List Int) (hr : RdL h0 v 1 eI l) (hl : l.length ≤ 1000000) (k : Int) : Fn Tryz.prog Xh 48 [v, .int .i64 k] h0 (fun r h' => BoolIs r (∃ i, i < l.length ∧ l.getD i default = k) ∧ Hs h0 h' []) := by
  have S := Hs.start w
  refine Fn_K rfl Tryz.func48 rfl rfl ?_
  all_goals (repeat' (first | refine K_seq ?_ | refine k_cond rfl ?_ | refine K_skip ?_ | refine K_exit ?_ | refine k_block ?_ | refine K_scope ?_ | (refine K_region (id := 0) ?_; refine mv ?_; refine KO_nil ?_) | (refine K_region (id := 1) ?_; refine mv ?_; refine mv ?_)))
  (refine KO_fn rfl rfl rfl rfl rfl ((index_ok S.wf v l hr hl k).mono ?_); rintro _ h ⟨⟨i, hi, rfl, hq, hn⟩ | ⟨rfl, hn⟩, x⟩) <;> (replace S := S.join0 x; clear x; (first | refine cT ?_ | refine cF ?_ | (refine cS ?_ ?_ <;> intro hc)) <;> (refine mv ?_; refine KO_nil ?_))
  all_goals (repeat' (first | refine K_seq ?_ | refine k_cond rfl ?_ | refine K_skip ?_ | refine K_exit ?_ | refine k_block ?_ | refine K_scope ?_))
  all_goals (try omega)
  all_goals (refine K_ret ⟨_, rfl, ?_⟩)
  · exact ⟨.inl ⟨rfl, i, hi, hq⟩, S⟩
  · exact ⟨.inr ⟨rfl, fun ⟨j, hj, hp⟩ => hn j hj hp⟩, S⟩
def OpenR (l : List Tab) (a : Int) : Prop := ∃ i k : Nat, WhereI l a i k ∧ openP (tb l i) k
theorem hallOpen_ok {h0 : AH} (w : WfH h0) (v : Value) (l : List Tab) (H : HallR h0 v l) (a : Int) (ha : a ≤ 9223372036854775807) :
    Fn Tryz.prog Xh 50 [v, .int .i64 a] h0 (fun r h' => BoolIs r (OpenR l a) ∧ Hs h0 h' []) := by
  have S := Hs.start w
  have hr := H.rd
  have hl := H.len
  refine Fn_K rfl Tryz.func50 rfl rfl ?_
  all_goals (repeat' (first | refine K_seq ?_ | refine k_cond rfl ?_ | refine K_skip ?_ | refine K_exit ?_ | refine k_block ?_ | refine K_scope ?_ | (refine K_region (id := 0) ?_; refine mv ?_; refine KO_nil ?_) | (refine K_region (id := 1) ?_; refine mv ?_; refine mv ?_)))
  (refine KO_fn rfl rfl rfl rfl rfl ((where_ok S.wf v l H a ha).mono ?_); rintro _ h ⟨_, _, _, rfl, ⟨rfl, i, k, rfl, rfl, w1⟩ | ⟨rfl, rfl, rfl, w1⟩, x⟩) <;> (replace S := S.join0 x; clear x; refine mv ?_; refine vl ?_; refine vl ?_; refine vl ?_; refine mv ?_; refine mv ?_; refine mv ?_; refine KO_nil ?_)
  · have hi := w1.2.1
    have ht := (H.ext w S.ext).tab i hi
    all_goals (repeat' (first | refine K_seq ?_ | refine k_cond rfl ?_ | refine K_skip ?_ | refine K_exit ?_ | refine k_block ?_ | refine K_scope ?_ | (refine K_region (id := 2) ?_; refine mv ?_; refine mv ?_; (first | refine off ?_ | refine mv ?_); (first | refine off ?_ | refine mv ?_); (first | refine off ?_ | (first | refine ixB S ?_ | refine ixS S rfl rfl ?_)); (first | refine off ?_ | (first | refine vl ?_ | refine fB S ?_ | refine fS S rfl rfl ?_ | refine fA ?_)); (first | refine off ?_ | (first | refine lB S rfl rfl ?_ | refine lES S rfl rfl ?_ | refine lEB S ?_ | refine lH S ?_)); (first | refine off ?_ | refine mv ?_); (first | (refine off ?_; refine vl ?_; refine mv ?_; refine KO_nil ?_) | skip))))
    (try simp only [Int.toNat_natCast] at *)
    (refine KO_fn rfl rfl rfl rfl rfl ((containsI_ok S.wf (tb l i).ov (tb l i).opn ht.1 (Nat.le_trans ht.2.2 (by omega)) k).mono ?_); rintro _ h ⟨⟨rfl, hq⟩ | ⟨rfl, hq⟩, x⟩) <;> (replace S := S.join0 x; clear x; refine vl ?_; refine mv ?_; refine KO_nil ?_)
    all_goals (repeat' (first | refine K_seq ?_ | refine k_cond rfl ?_ | refine K_skip ?_ | refine K_exit ?_ | refine k_block ?_ | refine K_scope ?_))
    all_goals (refine K_ret ⟨_, rfl, ?_⟩)
    · exact ⟨.inl ⟨rfl, i, k, w1, hq⟩, S⟩
    · refine ⟨.inr ⟨rfl, fun ⟨i', k', q1, q2⟩ => ?_⟩, S⟩
      obtain ⟨rfl, rfl⟩ := w1.unique q1
      exact hq q2
  · all_goals (repeat' (first | refine K_seq ?_ | refine k_cond rfl ?_ | refine K_skip ?_ | refine K_exit ?_ | refine k_block ?_ | refine K_scope ?_ | (refine K_region (id := 2) ?_; refine mv ?_; refine mv ?_; (first | refine off ?_ | refine mv ?_); (first | refine off ?_ | refine mv ?_); (first | refine off ?_ | (first | refine ixB S ?_ | refine ixS S rfl rfl ?_)); (first | refine off ?_ | (first | refine vl ?_ | refine fB S ?_ | refine fS S rfl rfl ?_ | refine fA ?_)); (first | refine off ?_ | (first | refine lB S rfl rfl ?_ | refine lES S rfl rfl ?_ | refine lEB S ?_ | refine lH S ?_)); (first | refine off ?_ | refine mv ?_); (first | (refine off ?_; refine vl ?_; refine mv ?_; refine KO_nil ?_) | skip))))
    refine K_ret ⟨_, rfl, ?_⟩
    exact ⟨.inr ⟨rfl, fun ⟨i', k', q1, q2⟩ => w1 _ _ q1⟩, S⟩

open Classical in
/-- The near seats among the first n. -/
noncomputable def nbUp (N : Int → Int → Prop) (k a : Int) : Nat → List Int
  | 0 => []
  | m + 1 => if N k m then nbUp N k a m ++ [a - k + m] else nbUp N k a m
theorem nbUp_len (N : Int → Int → Prop) (k a : Int) : ∀ m, (nbUp N k a m).length ≤ m
  | 0 => Nat.le_refl _
  | m + 1 => by
    have := nbUp_len N k a m
    unfold nbUp
    split
    · simp; omega
    · omega
def NbR (l : List Tab) (a : Int) (out : List Int) : Prop := (∃ i k : Nat, WhereI l a i k ∧ out = nbUp (nearP (tb l i)) k a (tsize (tb l i)).toNat) ∨ (out = [] ∧ ∀ i k, ¬ WhereI l a i k)
theorem hallNeighbours_ok {h0 : AH} (w : WfH h0) (v : Value) (l : List Tab) (H : HallR h0 v l) (a : Int) (ha : a ≤ 9223372036854775807) :
    Fn Tryz.prog Xh 36 [v, .int .i64 a] h0 (fun r h' => ∃ out, NbR l a out ∧ out.length ≤ 1000 ∧ Hs h0 h' [.sl r 3 1 eI out]) := by
  have S := Hs.start w
  have hr := H.rd
  have hl := H.len
  refine Fn_K rfl Tryz.func36 rfl rfl ?_
  all_goals (repeat' (first | refine K_seq ?_ | refine k_cond rfl ?_ | refine K_skip ?_ | refine K_exit ?_ | refine k_block ?_ | refine K_scope ?_ | (refine K_region (id := 0) ?_; refine mv ?_; refine KO_nil ?_) | (refine K_region (id := 1) ?_; refine mv ?_; refine mv ?_)))
  (refine KO_fn rfl rfl rfl rfl rfl ((where_ok S.wf v l H a ha).mono ?_); rintro _ h ⟨_, _, _, rfl, ⟨rfl, i, k, rfl, rfl, w1⟩ | ⟨rfl, rfl, rfl, w1⟩, x⟩) <;> (replace S := S.join0 x; clear x; refine mv ?_; refine vl ?_; refine vl ?_; refine vl ?_; refine mv ?_; refine mv ?_; refine mv ?_; refine KO_nil ?_)
  · have hi := w1.2.1
    have t1 := tsize_le (tb l i)
    have k1 := w1.2.2.1
    have a1 := w1.2.2.2
    have b1 := sumT_le l i
    obtain ⟨n, hn⟩ := Int.eq_ofNat_of_zero_le t1.1
    have hnn : (tsize (tb l i)).toNat = n := by omega
    all_goals (repeat' (first | refine K_seq ?_ | refine k_cond rfl ?_ | refine K_skip ?_ | refine K_exit ?_ | refine k_block ?_ | refine K_scope ?_ | (refine K_region (id := 2) ?_; refine mv ?_; refine vl ?_; refine KO_nil ?_) | (refine K_region (id := 3) ?_; refine mv ?_; refine KO_nil ?_) | (refine K_region (id := 4) ?_; refine mv ?_; refine KO_nil ?_) | (refine K_region (id := 5) ?_; refine mv ?_; refine mv ?_; (first | refine ixB S ?_ | refine ixS S rfl rfl ?_); (first | refine lB S rfl rfl ?_ | refine lES S rfl rfl ?_ | refine lEB S ?_ | refine lH S ?_))))
    (try simp only [Int.toNat_natCast] at *)
    (refine KO_fn rfl rfl rfl rfl rfl ((size_ok S.wf (tb l i)).mono ?_); rintro _ h ⟨rfl, x⟩) <;> (replace S := S.join0 x; clear x; rw [hn]; refine mv ?_; refine KO_nil ?_)
    all_goals (repeat' (first | refine K_seq ?_ | refine k_cond rfl ?_ | refine K_skip ?_ | refine K_exit ?_ | refine k_block ?_ | refine K_scope ?_))
    refine k_loop (σ := Nat × Value) (fun (m, vo) h' => Hs h0 h' [.sl vo 3 1 eI (nbUp (nearP (tb l i)) k a m)] ∧ m ≤ n) (fun (m, vo) => n - m) (fun (m, vo) => [(0, v), (1, .int .i64 a), (5, .int .i64 i), (6, .int .i64 k), (8, vo), (23, .int .i64 n), (24, .int .i64 m)]) (0, .slice none 0 0) (by repeat (first | exact Ks.le_nil _ | refine Ks.le_cons rfl ?_ | refine Ks.le_int ?_)) ?_ ?_
    · exact ⟨S.nilS, Nat.zero_le _⟩
    clear S
    rintro ⟨m, vo⟩ h ⟨S, h1⟩
    have hnl := nbUp_len (nearP (tb l i)) k a m
    all_goals (repeat' (first | refine K_seq ?_ | refine k_cond rfl ?_ | refine K_skip ?_ | refine K_exit ?_ | refine k_block ?_ | refine K_scope ?_ | (refine K_region (id := 6) ?_; (first | refine cT ?_ | refine cF ?_ | (refine cS ?_ ?_ <;> intro hc)) <;> (refine KO_nil ?_)) | (refine K_region (id := 7) ?_; refine mv ?_; refine mv ?_; refine KO_nil ?_) | (refine K_region (id := 8) ?_; refine mv ?_; refine mv ?_; (first | refine ixB S ?_ | refine ixS S rfl rfl ?_); (first | refine lB S rfl rfl ?_ | refine lES S rfl rfl ?_ | refine lEB S ?_ | refine lH S ?_); refine mv ?_; refine mv ?_) | (refine K_region (id := 11) ?_; refine mv ?_; refine mv ?_; refine KO_nil ?_)))
    · (try simp only [Int.toNat_natCast] at *)
      (refine KO_fn rfl rfl rfl rfl rfl ((near_ok S.wf (tb l i) k m w1.sz.b (by omega) (by omega)).mono ?_); rintro _ h ⟨⟨rfl, hq⟩ | ⟨rfl, hq⟩, x⟩) <;> (replace S := S.join0 x; clear x; refine KO_nil ?_)
      · all_goals (repeat' (first | refine K_seq ?_ | refine k_cond rfl ?_ | refine K_skip ?_ | refine K_exit ?_ | refine k_block ?_ | refine K_scope ?_ | (refine K_region (id := 9) ?_; refine mv ?_; refine mv ?_; refine mv ?_; (first | refine sb ?_ | refine vl ?_); refine mv ?_; (first | refine ad ?_ | refine vl ?_); (refine one 1 S ?_; clear S; intro u h S)) | (refine K_region (id := 10) ?_; (first | refine ad ?_ | refine vl ?_); refine mv ?_; refine KO_nil ?_)))
        refine app (y0 := (a - k + m)) S rfl rfl ?_; clear S; intro v h S; refine mv ?_; refine KO_nil ?_
        all_goals (repeat' (first | refine K_seq ?_ | refine k_cond rfl ?_ | refine K_skip ?_ | refine K_exit ?_ | refine k_block ?_ | refine K_scope ?_ | (refine K_region (id := 10) ?_; (first | refine ad ?_ | refine vl ?_); refine mv ?_; refine KO_nil ?_)))
        refine ⟨(m + 1, v), ?_, ?_, (by repeat (first | exact Ks.le_nil _ | refine Ks.le_cons rfl ?_ | refine Ks.le_int ?_))⟩
        · show n - (m + 1) < n - m; omega
        · refine ⟨?_, by omega⟩
          have e : nbUp (nearP (tb l i)) k a (m + 1) = nbUp (nearP (tb l i)) k a m ++ [a - k + m] := by rw [nbUp, if_pos hq]
          rw [e]; exact S
      · all_goals (repeat' (first | refine K_seq ?_ | refine k_cond rfl ?_ | refine K_skip ?_ | refine K_exit ?_ | refine k_block ?_ | refine K_scope ?_ | (refine K_region (id := 10) ?_; (first | refine ad ?_ | refine vl ?_); refine mv ?_; refine KO_nil ?_)))
        refine ⟨(m + 1, vo), ?_, ?_, (by repeat (first | exact Ks.le_nil _ | refine Ks.le_cons rfl ?_ | refine Ks.le_int ?_))⟩
        · show n - (m + 1) < n - m; omega
        · refine ⟨?_, by omega⟩
          have e : nbUp (nearP (tb l i)) k a (m + 1) = nbUp (nearP (tb l i)) k a m := by rw [nbUp, if_neg hq]
          rw [e]; exact S
    · refine K_ret ⟨_, rfl, ?_⟩
      have hmn : m = n := by omega
      subst hmn
      exact ⟨_, .inl ⟨i, k, w1, by rw [hnn]⟩, by omega, S⟩
  · all_goals (repeat' (first | refine K_seq ?_ | refine k_cond rfl ?_ | refine K_skip ?_ | refine K_exit ?_ | refine k_block ?_ | refine K_scope ?_ | (refine K_region (id := 2) ?_; refine mv ?_; refine vl ?_; refine KO_nil ?_) | (refine K_region (id := 3) ?_; refine mv ?_; refine KO_nil ?_)))
    refine K_ret ⟨_, rfl, ?_⟩
    exact ⟨[], .inr ⟨rfl, w1⟩, by simp, S.nilS⟩
end Go.Proofs.Xx

/-
  HallNumbers: the seats of a hall are numbered without gaps.
-/
namespace Go.Proofs.Xx
open Go Go.Proofs
set_option linter.unusedSimpArgs false
set_option linter.unusedVariables false
set_option maxRecDepth 100000

theorem WhereR.is {l : List Tab} {s a b : Int} {f : Bool} (h : WhereR l s a b f) {i k : Nat} (q : WhereI l s i k) : a = i ∧ b = k ∧ f = true := h.unique (.inl ⟨rfl, i, k, rfl, rfl, q⟩)
theorem WhereR.no {l : List Tab} {s a b : Int} {f : Bool} (h : WhereR l s a b f) (q : ∀ i k, ¬ WhereI l s i k) : a = 0 ∧ b = 0 ∧ f = false := h.unique (.inr ⟨rfl, rfl, rfl, q⟩)
theorem MadeH.sz {cs : List Cod} {l : List Tab} (m : MadeH cs l) {i : Nat} (h : i < l.length) : TabS (tb l i) := by
  obtain ⟨t, h1, h2⟩ := m.tab i h
  refine TabS.of _ ?_
  rw [h2, tsize_xy]; exact h1.ts.pos
theorem MadeH.seats {cs : List Cod} {l : List Tab} (m : MadeH cs l) {i : Nat} (h : i < l.length) : seatsV (tb l i) = tsize (tb l i) := by
  unfold seatsV; rw [if_pos (m.chk h)]
theorem MadeH.first {cs : List Cod} {l : List Tab} (m : MadeH cs l) {i : Nat} (h : i < l.length) : firstV l i = sumT l i := by
  unfold firstV; rw [if_pos ⟨by omega, by omega, m.valid⟩, Int.toNat_natCast]
def wZebra : List UInt8 := [122, 101, 98, 114, 97]

theorem wf_i64b {x : Int} (h : (Lit.int .i64 x).wf = true) : -9223372036854775808 ≤ x ∧ x ≤ 9223372036854775807 := by
  simp [Lit.wf, IntKind.min, IntKind.max, IntKind.signed, IntKind.bits] at h
  omega
end Go.Proofs.Xx
