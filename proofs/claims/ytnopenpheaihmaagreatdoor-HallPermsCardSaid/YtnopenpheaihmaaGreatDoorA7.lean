/-
  Further operations: what the checked run does, the machine does.
-/
import Derived.Test.YtnopenpheaihmaaGreatDoorA6
import Derived.IntWalk
namespace Go.Proofs.Xx
open Go
set_option linter.unusedSimpArgs false
set_option linter.unusedVariables false

section
variable {P : Program}

theorem wrap_nat (n : Nat) (h : n < 9223372036854775808) : IntKind.i64.wrap (n : Int) = (n : Int) := IntWalk.i64_in _ (by omega)

theorem aMakeSlice_sound [Glob] {B : Bs} {f : Emb} {h h' : AH} {w : World} (r : Rel B f h w) {t : TypeId} {l l' c c' v : Value}
    (hb : aMakeSlice P t l c h = some (v, h')) (hl : VR f l l') (hc : VR f c c') :
    ∃ f' v' w', (Instr.makeSlice t l' c').run P w = .ok v' w' ∧ Rel B f' h' w' ∧ Turn f h w f' h' w' ∧ VR f' v v' := by
  unfold aMakeSlice at hb
  split at hb
  · rename_i n m
    cases hl; cases hc
    split at hb
    · rename_i e he
      have hu := sliceElem_eq he
      split at hb
      · rename_i z by_ hz hby
        obtain ⟨i, zv, hi, hzv, hzl, hsz, hz0, hpl⟩ := zeroCellsT_eq hz
        split at hb
        · rename_i hq
          cases hb
          simp only [Bool.and_eq_true] at hq
          have h1 := Nat.le_of_ble_eq_true hq.1
          have h2 := Nat.le_of_ble_eq_true hq.2
          have h3 : i.bytes = by_ := by unfold bytesT at hby; rw [hi] at hby; cases hby; rfl
          have hm1 : m * by_ + m ≤ 1099511627776 := by rw [Nat.mul_succ] at h2; exact h2
          have hzr : VRs f z z := by rw [← hzl]; exact (VR.plain f zv hpl).cells
          have hpush := pushed_newObj w (.cells (zeroRow z m).toArray e)
          obtain ⟨r1, r2⟩ := r.new (hzr.zeroRow m) hpush
          refine ⟨_, .slice (some ⟨w.heap.size, 0, none⟩) n m, _, ?_, r1, r2, ?_⟩
          · have hsr : (sizeOf e).run P w = .ok z.length w := by simp [sizeOf, typeInfo, hi, hsz]
            have hzrun : (zeroValue e).run P w = .ok zv w := by simp [zeroValue, typeInfo, hi, hzv]
            have hti : (typeInfo e).run P w = .ok i w := by simp [typeInfo, hi]
            have hn : IntKind.i64.wrap (Int.ofNat n) = (n : Int) := wrap_nat n (by omega)
            have hm : IntKind.i64.wrap (Int.ofNat m) = (m : Int) := wrap_nat m (by omega)
            have hbm : ((by_ : Nat) : Int) * (m : Int) ≤ 281474976710656 := by
              have h5 : by_ * m ≤ 1099511627776 := by rw [Nat.mul_comm]; omega
              have h6 : ((by_ * m : Nat) : Int) ≤ 281474976710656 := by omega
              rw [Int.natCast_mul] at h6; exact h6
            have hc1 : (decide ((m : Int) < 0) || decide ((by_ : Int) * (m : Int) > 2 ^ 48) || decide ((n : Int) < 0) || decide ((n : Int) > (m : Int))) = false := by
              rw [show (2 : Int) ^ 48 = 281474976710656 from rfl]
              simp only [Bool.or_eq_false_iff, decide_eq_false_iff_not]
              omega
            simp only [Instr.makeSlice, Sem.run_bind, run_underlying hu, Result.andThen_ok, asInt, asIntOf, Sem.run_pure, hti, h3, hn, hm]
            simp only [hc1, Bool.false_eq_true, if_false, Sem.run_bind, run_askRoom, Result.andThen_ok, Int.toNat_natCast, hsr]
            by_cases hl0 : m * z.length = 0
            · have : m = 0 := by
                rcases Nat.mul_eq_zero.1 hl0 with h | h
                · exact h
                · exact absurd h hz0
              subst this
              simp only [Nat.zero_mul, if_true, Sem.run_pure, Result.andThen_ok, hr0, Array.map_empty, newRow, Sem.run_bind, run_newObj]
              rfl
            · rw [if_neg hl0]
              simp only [Sem.run_bind, hzrun, Result.andThen_ok, Sem.run_pure]
              have hzz : (Array.range (m * z.length)).map (fun i => zv.cells[i % zv.cells.size]!) = (zeroRow z m).toArray := zeroRow_eq hzl hz0 m
              rw [hzz]
              simp only [newRow, Sem.run_bind, run_newObj, Result.andThen_ok, Sem.run_pure]
          · exact VR.slice h.next 0 _ n m ⟨w.heap.size, 0, 0⟩ (Emb.put_same _ _ _) h1 (.inl rfl)
        · cases hb
      · cases hb
    · cases hb
  · cases hb

theorem extract_VRs {f : Emb} {cs cs' : Array Value} (h : VRs f cs.toList cs'.toList) {o n : Nat} {xs : List Value} (ht : takeAt cs.toList o n = some xs) : VR f (.agg xs.toArray) (.agg (cs'.extract o (o + n))) := by
  obtain ⟨rfl, -, -⟩ := takeAt_eq ht
  have : (cs'.extract o (o + n)) = ((cs'.toList.drop o).take n).toArray := by
    apply Array.ext'
    simp only [Array.toList_extract, List.extract_eq_take_drop]
    rw [show o + n - o = n by omega]
  rw [this]
  exact .agg _ _ ((h.drop o).take n)

theorem VR.agg_inv {f : Emb} {cs : Array Value} {v : Value} (h : VR f (.agg cs) v) : ∃ cs' : Array Value, v = .agg cs' ∧ VRs f cs.toList cs'.toList := by
  generalize hx : Value.agg cs = x at h
  cases h with
  | agg c c' h => cases hx; exact ⟨_, rfl, by simpa using h⟩
  | _ => cases hx
theorem VR.tuple_inv {f : Emb} {cs : Array Value} {v : Value} (h : VR f (.tuple cs) v) : ∃ cs' : Array Value, v = .tuple cs' ∧ VRs f cs.toList cs'.toList := by
  generalize hx : Value.tuple cs = x at h
  cases h with
  | tuple c c' h => cases hx; exact ⟨_, rfl, by simpa using h⟩
  | _ => cases hx
theorem VR.func_inv {f : Emb} {g : FuncId} {a c : Array Value} {v : Value} (h : VR f (.func (.func g) a c) v) : ∃ a' c' : Array Value, v = .func (.func g) a' c' ∧ VRs f a.toList a'.toList ∧ VRs f c.toList c'.toList := by
  generalize hx : Value.func (.func g) a c = x at h
  cases h with
  | func g a a' c c' h1 h2 => cases hx; exact ⟨_, _, rfl, by simpa using h1, by simpa using h2⟩
  | _ => cases hx
theorem VR.yield_inv {f : Emb} {l : Nat} {v : Value} (h : VR f (.func (.yield l) #[] #[]) v) : ∃ L, f l = some L ∧ v = .func (.yield L.blk) #[] #[] := by
  generalize hx : Value.func (.yield l) #[] #[] = x at h
  cases h with
  | yield l L h => cases hx; exact ⟨L, h, rfl⟩
  | _ => cases hx

theorem aField_sound {f : Emb} {w : World} {t : TypeId} {x x' v : Value} {k : Nat} (h : aField P t x k = some v) (hx : VR f x x') :
    ∃ v', (Instr.field t x' k).run P w = .ok v' w ∧ VR f v v' := by
  unfold aField at h
  split at h
  · rename_i cs fs hu
    obtain ⟨cs', rfl, hcs⟩ := hx.agg_inv
    split at h
    · rename_i fd hfd
      split at h
      · rename_i hagg
        split at h
        · rename_i n hn
          split at h
          · rename_i xs hxs
            cases h
            refine ⟨_, ?_, extract_VRs hcs hxs⟩
            simp only [Instr.field, Sem.run_bind, run_underlying hu, Result.andThen_ok, hfd, asAgg, Sem.run_pure, part, run_isAgg hagg, if_true, run_sizeT hn]
          · cases h
        · cases h
      · rename_i hagg
        obtain ⟨v', q1, q2⟩ := hcs.get _ _ h
        refine ⟨v', ?_, q2⟩
        rw [Array.getElem?_toList] at q1
        simp only [Instr.field, Sem.run_bind, run_underlying hu, Result.andThen_ok, hfd, asAgg, Sem.run_pure, part, run_isAgg hagg, Bool.false_eq_true, if_false, q1]
      · cases h
    · cases h
  · cases h

theorem aFieldAddr_sound {f : Emb} {w : World} {t : TypeId} {x x' v : Value} {k : Nat} (h : aFieldAddr P t x k = some v) (hx : VR f x x') :
    ∃ v', (Instr.fieldAt t x' k).run P w = .ok v' w ∧ VR f v v' := by
  unfold aFieldAddr at h
  split at h
  · rename_i b o fs hu
    obtain ⟨L, hL, rfl⟩ := hx.pointer_inv
    split at h
    · rename_i fd hfd
      split at h
      · rename_i n hn
        cases h
        refine ⟨_, ?_, .pointer _ _ L hL⟩
        simp only [Instr.fieldAt, Sem.run_bind, run_underlying hu, Result.andThen_ok, hfd, Instr.sureAddr, Sem.run_pure, fieldPlace, run_sizeT hn]
        rw [if_neg (by omega)]
        simp only [Sem.run_pure, Result.andThen_ok, add_none, Nat.add_assoc]
      · cases h
    · cases h
  · cases h

theorem aIndexAddr_sound {f : Emb} {w : World} {t : TypeId} {x x' i i' v : Value} (h : aIndexAddr P t x i = some v) (hx : VR f x x') (hi : VR f i i') :
    ∃ v', (Instr.indexAt t x' i').run P w = .ok v' w ∧ VR f v v' := by
  unfold aIndexAddr at h
  split at h
  · rename_i b o kk k len e hu
    obtain ⟨L, hL, rfl⟩ := hx.pointer_inv
    cases hi
    split at h
    · rename_i n hlt hn
      cases h
      have hlt : k < len := by rw [Nat.blt_eq] at hlt; exact hlt
      refine ⟨_, ?_, .pointer _ _ L hL⟩
      have hcond : 0 ≤ (Int.ofNat k) ∧ (Int.ofNat k) < (len : Int) := by
        constructor
        · exact Int.natCast_nonneg k
        · exact Int.ofNat_lt.2 hlt
      simp only [Instr.indexAt, Sem.run_bind, asIntOf, run_underlying hu, Result.andThen_ok, Instr.sureAddr, Sem.run_pure]
      rw [if_pos hcond]
      simp only [Sem.run_bind, run_sizeT hn, Result.andThen_ok, Sem.run_pure, add_none, Nat.add_assoc]
      rfl
    · cases h
  · rename_i b o len cap kk k e hu
    obtain ⟨L, o', hL, rfl, hlc, ho⟩ := hx.slice_inv
    cases hi
    split at h
    · rename_i n hlt hn
      cases h
      have hlt : k < len := by rw [Nat.blt_eq] at hlt; exact hlt
      have ho' : o' = ⟨L.blk, L.sh + o, none⟩ := by
        rcases ho with ho | ⟨h0, -⟩
        · exact ho
        · omega
      subst ho'
      refine ⟨_, ?_, .pointer _ _ L hL⟩
      have hcond : 0 ≤ (Int.ofNat k) ∧ (Int.ofNat k) < (len : Int) := by
        constructor
        · exact Int.natCast_nonneg k
        · exact Int.ofNat_lt.2 hlt
      simp only [Instr.indexAt, Sem.run_bind, asIntOf, run_underlying hu, Result.andThen_ok, Instr.sureAddr, Sem.run_pure]
      rw [if_pos hcond]
      simp only [Sem.run_bind, run_sizeT hn, Result.andThen_ok, Sem.run_pure, add_none, Nat.add_assoc]
      rfl
    · cases h
  · cases h

theorem aIndex_sound {f : Emb} {w : World} {t : TypeId} {x x' i i' v : Value} (h : aIndex P t x i = some v) (hx : VR f x x') (hi : VR f i i') :
    ∃ v', (Instr.index t x' i').run P w = .ok v' w ∧ VR f v v' := by
  unfold aIndex at h
  split at h
  · rename_i s kk k hu
    cases hx; cases hi
    split at h
    · rename_i b hb
      cases h
      refine ⟨_, ?_, .int _ _⟩
      simp only [Instr.index, Sem.run_bind, asIntOf, run_underlying hu, Result.andThen_ok, Sem.run_pure]
      have h1 : 0 ≤ Int.ofNat k := Int.natCast_nonneg k
      rw [if_pos h1]
      have hk : k < s.data.size := by
        rw [Array.getElem?_toList] at hb
        exact (Array.getElem?_eq_some_iff.1 hb).1
      have h2 : s[(Int.ofNat k).toNat]? = some b := by
        have h3 : (Int.ofNat k).toNat = k := rfl
        rw [h3]
        rw [Array.getElem?_toList] at hb
        have h4 : s[k]? = some s[k] := getElem?_pos s k hk
        rw [h4]
        have h5 := (Array.getElem?_eq_some_iff.1 hb).2
        rw [← h5]
        rfl
      rw [h2]
      rfl
    · cases h
  · rename_i cs kk k len e hu
    obtain ⟨cs', rfl, hcs⟩ := hx.agg_inv
    cases hi
    have hcond : ∀ hlt : Nat.blt k len = true, 0 ≤ (Int.ofNat k) ∧ (Int.ofNat k) < (len : Int) := fun hlt => by
      rw [Nat.blt_eq] at hlt
      exact ⟨Int.natCast_nonneg k, Int.ofNat_lt.2 hlt⟩
    have hk3 : (Int.ofNat k).toNat = k := rfl
    split at h
    · rename_i n hlt hagg hn
      split at h
      · rename_i xs hxs
        cases h
        refine ⟨_, ?_, extract_VRs hcs hxs⟩
        simp only [Instr.index, Sem.run_bind, asIntOf, run_underlying hu, Result.andThen_ok, Sem.run_pure]
        rw [if_pos (hcond hlt)]
        simp only [Sem.run_bind, run_sizeT hn, Result.andThen_ok, part, run_isAgg hagg, if_true, Sem.run_pure, hk3]
      · cases h
    · rename_i n hlt hagg hn
      obtain ⟨v', q1, q2⟩ := hcs.get _ _ h
      refine ⟨v', ?_, q2⟩
      rw [Array.getElem?_toList] at q1
      simp only [Instr.index, Sem.run_bind, asIntOf, run_underlying hu, Result.andThen_ok, Sem.run_pure]
      rw [if_pos (hcond hlt)]
      simp only [Sem.run_bind, run_sizeT hn, Result.andThen_ok, part, run_isAgg hagg, Bool.false_eq_true, if_false, Sem.run_pure, hk3, q1]
    · cases h
  · cases h
end
end Go.Proofs.Xx
