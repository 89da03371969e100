/-
  Arithmetic, comparisons, strings, slices, len, min, max: what the checked run does, the machine does.
-/
import Derived.Test.YtnopenpheaihmaaGreatDoorA7
namespace Go.Proofs.Xx
open Go
set_option linter.unusedSimpArgs false
set_option linter.unusedVariables false

section
variable {P : Program}

theorem bytes_append (a b : ByteArray) : (⟨(a.data.toList ++ b.data.toList).toArray⟩ : ByteArray) = a ++ b := by
  apply bytes_mk
  rw [ByteArray.data_append, Array.toList_append]

theorem cmpInt_sound {f : Emb} {op : BinOp} {a b : Int} {r : Bool} (h : cmpInt op a b = some r) (w : World) : (Op.intCmp op a b).run P w = .ok (.bool r) w := by
  cases op <;> simp only [cmpInt] at h <;> first | (cases h; done) | (cases h; rfl)

theorem run_equal {t : TypeId} {x y : Value} {r : Bool} {w : World} (h : ∀ d, (Op.equalIn (d + 1) t x y).run P w = .ok r w) : (Op.equal t x y).run P w = .ok r w := h 9999
theorem run_eql {t : TypeId} {x y : Value} {r : Bool} {w : World} (hd : ∀ w : World, (binOp .eql t x y).run P w = ((Op.equal t x y).run P w).andThen fun b w => .ok (.bool b) w) (h : ∀ d, (Op.equalIn (d + 1) t x y).run P w = .ok r w) : (binOp .eql t x y).run P w = .ok (.bool r) w := by
  rw [hd, run_equal h]; rfl
theorem run_neq {t : TypeId} {x y : Value} {r : Bool} {w : World} (hd : ∀ w : World, (binOp .neq t x y).run P w = ((Op.equal t x y).run P w).andThen fun b w => .ok (.bool !b) w) (h : ∀ d, (Op.equalIn (d + 1) t x y).run P w = .ok r w) : (binOp .neq t x y).run P w = .ok (.bool !r) w := by
  rw [hd, run_equal h]; rfl
theorem def_eql (t : TypeId) (x y : Value) (w : World) (h : binOp .eql t x y = (do pure (.bool (← Op.equal t x y)))) : (binOp .eql t x y).run P w = ((Op.equal t x y).run P w).andThen fun b w => .ok (.bool b) w := by
  rw [h, Sem.run_bind]; rfl
theorem def_neq (t : TypeId) (x y : Value) (w : World) (h : binOp .neq t x y = (do pure (.bool (!(← Op.equal t x y))))) : (binOp .neq t x y).run P w = ((Op.equal t x y).run P w).andThen fun b w => .ok (.bool !b) w := by
  rw [h, Sem.run_bind]; rfl

/-- The bare operator, without the guard that looks at nil interface values. -/
theorem aBin_sound {f : Emb} {w : World} {op : BinOp} {t : TypeId} {x x' y y' v : Value} (h : aBin P op t x y = some v) (hx : VR f x x') (hy : VR f y y') :
    ∃ v', (binOp op t x' y').run P w = .ok v' w ∧ VR f v v' := by
  unfold aBin at h
  split at h
  · rename_i k a k' b
    cases hx; cases hy
    split at h
    · split at h
      · cases h
      · rename_i hb
        cases h
        refine ⟨_, ?_, .int _ _⟩
        simp only [binOp, Op.shift]
        rw [if_neg (of_decide_eq_false hb)]
        rfl
    · split at h
      · cases h
      · rename_i hb
        cases h
        refine ⟨_, ?_, .int _ _⟩
        simp only [binOp, Op.shift]
        rw [if_neg (of_decide_eq_false hb)]
        rfl
    · rename_i n1 n2
      split at h
      · cases h
      · rename_i hk
        have hk := of_decide_eq_true hk
        subst hk
        cases op
        case shl => exact (n1 rfl).elim
        case shr => exact (n2 rfl).elim
        case quo =>
          simp only at h
          split at h
          · cases h
          · rename_i hb
            cases h
            refine ⟨_, ?_, .int _ _⟩
            simp only [binOp, ne_eq, not_true, if_false, Op.intDiv]
            rw [if_neg (of_decide_eq_false hb)]
            rfl
        case rem =>
          simp only at h
          split at h
          · cases h
          · rename_i hb
            cases h
            refine ⟨_, ?_, .int _ _⟩
            simp only [binOp, ne_eq, not_true, if_false, Op.intDiv]
            rw [if_neg (of_decide_eq_false hb)]
            rfl
        all_goals first
          | (cases h; refine ⟨_, ?_, .int _ _⟩; simp only [binOp, ne_eq, not_true, if_false]; rfl)
          | (simp only [cmpInt] at h; cases h; refine ⟨_, ?_, .bool _⟩; simp only [binOp, ne_eq, not_true, if_false]; rfl)
  · rename_i a b
    cases hx; cases hy
    split at h
    · split at h
      · rename_i hb
        cases h
        refine ⟨_, ?_, .string _⟩
        have hle := Nat.le_of_ble_eq_true hb
        rw [bytes_append]
        simp only [binOp, Op.stringOp]
        rw [if_neg]
        · rfl
        · rw [bytes_size, bytes_size]
          have : IntKind.i64.max = 9223372036854775807 := by decide
          rw [this]; omega
      · cases h
    all_goals first
      | (cases h; done)
      | (cases h
         refine ⟨_, ?_, .bool _⟩
         simp only [binOp, Op.stringOp, bytes_toList, eqBytes]
         rfl)
  · rename_i a b
    cases hx; cases hy
    split at h
    · rename_i hu
      cases h
      refine ⟨_, ?_, .bool _⟩
      exact run_eql (fun w => def_eql _ _ _ w rfl) (fun d => by simp only [Op.equalIn, Sem.run_bind, run_underlying hu, Result.andThen_ok]; rfl)
    · rename_i hu
      cases h
      refine ⟨_, ?_, .bool _⟩
      exact run_neq (fun w => def_neq _ _ _ w rfl) (fun d => by simp only [Op.equalIn, Sem.run_bind, run_underlying hu, Result.andThen_ok]; rfl)
    · cases h
  · rename_i a l c
    cases hy
    split at h
    · rename_i e hu
      cases h
      refine ⟨_, ?_, .bool _⟩
      cases hx with
      | nilSlice => exact run_eql (fun w => def_eql _ _ _ w rfl) (fun d => by simp only [Op.equalIn, Sem.run_bind, run_underlying hu, Result.andThen_ok]; rfl)
      | slice b o o' len cap L hb hl ho => exact run_eql (fun w => def_eql _ _ _ w rfl) (fun d => by simp only [Op.equalIn, Sem.run_bind, run_underlying hu, Result.andThen_ok]; rfl)
    · rename_i e hu
      cases h
      refine ⟨_, ?_, .bool _⟩
      cases hx with
      | nilSlice => exact run_neq (fun w => def_neq _ _ _ w rfl) (fun d => by simp only [Op.equalIn, Sem.run_bind, run_underlying hu, Result.andThen_ok]; rfl)
      | slice b o o' len cap L hb hl ho => exact run_neq (fun w => def_neq _ _ _ w rfl) (fun d => by simp only [Op.equalIn, Sem.run_bind, run_underlying hu, Result.andThen_ok]; rfl)
    · cases h
  · rename_i a
    cases hy
    split at h
    · rename_i e hu
      cases h
      refine ⟨_, ?_, .bool _⟩
      cases hx with
      | nilPointer => exact run_eql (fun w => def_eql _ _ _ w rfl) (fun d => by simp only [Op.equalIn, Sem.run_bind, run_underlying hu, Result.andThen_ok]; rfl)
      | pointer b o L hb => exact run_eql (fun w => def_eql _ _ _ w rfl) (fun d => by simp only [Op.equalIn, Sem.run_bind, run_underlying hu, Result.andThen_ok]; rfl)
    · rename_i e hu
      cases h
      refine ⟨_, ?_, .bool _⟩
      cases hx with
      | nilPointer => exact run_neq (fun w => def_neq _ _ _ w rfl) (fun d => by simp only [Op.equalIn, Sem.run_bind, run_underlying hu, Result.andThen_ok]; rfl)
      | pointer b o L hb => exact run_neq (fun w => def_neq _ _ _ w rfl) (fun d => by simp only [Op.equalIn, Sem.run_bind, run_underlying hu, Result.andThen_ok]; rfl)
    · cases h
  · rename_i b o b' o'
    obtain ⟨L, hL, rfl⟩ := hx.pointer_inv
    obtain ⟨L', hL', rfl⟩ := hy.pointer_inv
    have hsame : ∀ (bb oo oo' : Nat), (sameAddr ⟨bb, oo, none⟩ ⟨bb, oo', none⟩).run P w = .ok (Nat.beq oo oo') w := fun bb oo oo' => by
      simp only [sameAddr, beq_self_eq_true, ↓reduceIte]
      have e : ((⟨bb, oo, none⟩ : Addr) == ⟨bb, oo', none⟩) = Nat.beq oo oo' := by
        rw [Bool.eq_iff_iff, beq_iff_eq, Nat.beq_eq]
        constructor
        · intro h; cases h; rfl
        · intro h; rw [h]
      rw [e]; rfl
    have hadd : Nat.beq (L.sh + o) (L.sh + o') = Nat.beq o o' := by
      rw [Bool.eq_iff_iff, Nat.beq_eq, Nat.beq_eq]; omega
    split at h
    · rename_i e hu
      split at h
      · rename_i n h1 h2
        cases h
        have := Nat.eq_of_beq_eq_true h1
        subst this
        rw [hL] at hL'; cases hL'
        refine ⟨_, ?_, .bool _⟩
        refine run_eql (fun w => def_eql _ _ _ w rfl) (fun d => ?_)
        simp only [Op.equalIn, Sem.run_bind, run_underlying hu, Result.andThen_ok, run_sizeT h2]
        simp [hsame, hadd]
      · cases h
    · rename_i e hu
      split at h
      · rename_i n h1 h2
        cases h
        have := Nat.eq_of_beq_eq_true h1
        subst this
        rw [hL] at hL'; cases hL'
        refine ⟨_, ?_, .bool _⟩
        refine run_neq (fun w => def_neq _ _ _ w rfl) (fun d => ?_)
        simp only [Op.equalIn, Sem.run_bind, run_underlying hu, Result.andThen_ok, run_sizeT h2]
        simp [hsame, hadd]
      · cases h
    · cases h
  · cases h

theorem aUn_sound {f : Emb} {w : World} {op : UnOp} {x x' v : Value} (h : aUn op x = some v) (hx : VR f x x') : ∃ v', (Op.unary op x').run P w = .ok v' w ∧ VR f v v' := by
  unfold aUn at h
  split at h
  · cases hx; cases h; exact ⟨_, rfl, .bool _⟩
  · cases hx; cases h; exact ⟨_, rfl, .int _ _⟩
  · cases h

theorem aConvert_sound {f : Emb} {w : World} {s d : TypeId} {x x' v : Value} (h : aConvert P s d x = some v) (hx : VR f x x') : ∃ v', (convert s d x').run P w = .ok v' w ∧ VR f v v' := by
  unfold aConvert at h
  split at h
  · rename_i k1 k2 k3 n h1 h2
    cases hx; cases h
    refine ⟨_, ?_, .int _ _⟩
    simp [convert, run_underlying h1, run_underlying h2, Conv.intToInt]
  · rename_i n h1 h2
    cases hx; cases h
    refine ⟨_, ?_, .string _⟩
    simp [convert, run_underlying h1, run_underlying h2]
  · cases h

theorem byteOf?_eq {v : Value} {b : UInt8} (h : byteOf? v = some b) : ∃ n : Nat, v = .int .u8 n ∧ b = UInt8.ofNat n := by
  unfold byteOf? at h
  split at h
  · cases h; exact ⟨_, rfl, rfl⟩
  · cases h
theorem bytesOf?_VRs {f : Emb} : ∀ {xs xs' : List Value} {s : List UInt8}, bytesOf? xs = some s → VRs f xs xs' → xs' = xs ∧ s.length = xs.length
  | [], _, s, h, .nil => by cases h; exact ⟨rfl, rfl⟩
  | v :: r, _, s, h, .cons _ v' _ r' hv hr => by
    simp only [bytesOf?] at h
    split at h
    · rename_i b t hb ht
      cases h
      obtain ⟨n, rfl, rfl⟩ := byteOf?_eq hb
      cases hv
      obtain ⟨h1, h2⟩ := bytesOf?_VRs ht hr
      exact ⟨by rw [h1], by simp [h2]⟩
    · cases h

theorem aLen_sound {f : Emb} {w : World} {t ty : TypeId} {ts : List TypeId} {x x' v : Value} (h : aLen P t x = some v) (hx : VR f x x') (r : List Value) :
    ∃ v', (Builtin.len_ (t :: ts).toArray ty (x' :: r).toArray).run P w = .ok v' w ∧ VR f v v' := by
  have e1 : ((t :: ts).toArray)[0]? = some t := by simp
  have e2 : ((x' :: r).toArray)[0]? = some x' := by simp
  unfold aLen at h
  split at h
  · rename_i s hu
    cases hx; cases h
    refine ⟨_, ?_, .int _ _⟩
    simp only [Builtin.len_, e1, e2, Sem.run_bind, run_underlying hu, Result.andThen_ok, Sem.run_pure, goInt, bytes_size]
  · rename_i a n c e hu
    cases h
    cases hx with
    | nilSlice =>
      refine ⟨_, ?_, .int _ _⟩
      simp only [Builtin.len_, e1, e2, Sem.run_bind, run_underlying hu, Result.andThen_ok, Sem.run_pure, goInt]
    | slice b o o' len cap L hb hl ho =>
      refine ⟨_, ?_, .int _ _⟩
      simp only [Builtin.len_, e1, e2, Sem.run_bind, run_underlying hu, Result.andThen_ok, Sem.run_pure, goInt]
  · rename_i n e hu
    cases h
    refine ⟨_, ?_, .int _ _⟩
    simp only [Builtin.len_, e1, e2, Sem.run_bind, run_underlying hu, Result.andThen_ok, Sem.run_pure, goInt]
  · rename_i a hu
    split at h
    · rename_i n e hu2
      cases h
      refine ⟨_, ?_, .int _ _⟩
      simp only [Builtin.len_, e1, e2, Sem.run_bind, run_underlying hu, run_underlying hu2, Result.andThen_ok, Sem.run_pure, goInt]
    · cases h
  · cases h

theorem lesser_sound {f : Emb} {w : World} {x x' y y' v : Value} (h : lesser x y = some v) (hx : VR f x x') (hy : VR f y y') : ∃ v', (Builtin.min2 x' y').run P w = .ok v' w ∧ VR f v v' := by
  unfold lesser at h
  split at h
  · cases hx; cases hy; cases h
    exact ⟨_, rfl, .int _ _⟩
  · cases hx; cases hy; cases h
    refine ⟨_, ?_, .string _⟩
    simp only [Builtin.min2, Op.stringOp, bytes_toList, eqBytes, Sem.run_bind, Sem.run_pure, Result.andThen_ok, asBool]
    rfl
  · cases h
theorem greater_sound {f : Emb} {w : World} {x x' y y' v : Value} (h : greater x y = some v) (hx : VR f x x') (hy : VR f y y') : ∃ v', (Builtin.max2 x' y').run P w = .ok v' w ∧ VR f v v' := by
  unfold greater at h
  split at h
  · cases hx; cases hy; cases h
    exact ⟨_, rfl, .int _ _⟩
  · cases hx; cases hy; cases h
    refine ⟨_, ?_, .string _⟩
    simp only [Builtin.max2, Op.stringOp, bytes_toList, eqBytes, Sem.run_bind, Sem.run_pure, Result.andThen_ok, asBool]
  · cases h
theorem foldV_sound {f : Emb} {w : World} {g : Value → Value → Option Value} {g' : Value → Value → Sem Value} (hg : ∀ x x' y y' v, g x y = some v → VR f x x' → VR f y y' → ∃ v', (g' x' y').run P w = .ok v' w ∧ VR f v v') :
    ∀ {r r' : List Value} {x x' v : Value}, foldV g x r = some v → VR f x x' → VRs f r r' → ∃ v', (r'.foldlM g' x').run P w = .ok v' w ∧ VR f v v'
  | [], _, x, x', v, h, hx, .nil => by cases h; exact ⟨x', by simp, hx⟩
  | y :: r, _, x, x', v, h, hx, .cons _ y' _ r' hy hr => by
    simp only [foldV] at h
    split at h
    · rename_i z hz
      obtain ⟨z', q1, q2⟩ := hg _ _ _ _ _ hz hx hy
      obtain ⟨v', p1, p2⟩ := foldV_sound hg h q2 hr
      exact ⟨v', by simp only [List.foldlM_cons, Sem.run_bind, q1, Result.andThen_ok, p1], p2⟩
    · cases h
end
end Go.Proofs.Xx
