/-
  Slices of slices and strings, append, clear: what the checked run does, the machine does.
-/
import Derived.Test.YtnopenpheaihmaaGreatDoorA8
namespace Go.Proofs.Xx
open Go
set_option linter.unusedSimpArgs false
set_option linter.unusedVariables false

section
variable {P : Program}

theorem boundOf_sound {f : Emb} {x x' : Option Value} {d n : Nat} (h : boundOf x d = some n) (hx : ∀ v, x = some v → ∃ v', x' = some v' ∧ VR f v v') (hn : x = none → x' = none) :
    (x = none ∧ x' = none ∧ n = d) ∨ ∃ k, x' = some (.int k (Int.ofNat n)) := by
  unfold boundOf at h
  split at h
  · cases h; exact .inl ⟨rfl, hn rfl, rfl⟩
  · rename_i k m
    cases h
    obtain ⟨v', q1, q2⟩ := hx _ rfl
    cases q2
    exact .inr ⟨_, q1⟩
  · cases h

theorem run_sliceBound {n y : Nat} {k : IntKind} (h : n ≤ y) (code : BoundsCode) (w : World) : (Instr.sliceBound (.int k (Int.ofNat n)) y code).run P w = .ok n w := by
  have h1 : 0 ≤ Int.ofNat n ∧ Int.ofNat n ≤ (y : Int) := ⟨Int.natCast_nonneg n, Int.ofNat_le.2 h⟩
  simp only [Instr.sliceBound, Sem.run_bind, asIntOf, Sem.run_pure, Result.andThen_ok]
  rw [if_pos h1]; rfl

theorem run_sliceBounds {f : Emb} {lo lo' hi hi' : Option Value} {len cap cap' l r : Nat} (b : Bool) (hlo : boundOf lo 0 = some l) (hhi : boundOf hi len = some r) (hlr : l ≤ r) (hr : r ≤ cap')
    (h1 : ∀ v, lo = some v → ∃ v', lo' = some v' ∧ VR f v v') (h1n : lo = none → lo' = none) (h2 : ∀ v, hi = some v → ∃ v', hi' = some v' ∧ VR f v v') (h2n : hi = none → hi' = none) (w : World) :
    (Instr.sliceBounds b len cap' lo' hi' none).run P w = .ok (l, r, cap') w := by
  rcases boundOf_sound hhi h2 h2n with ⟨-, rfl, rfl⟩ | ⟨k, rfl⟩
  · rcases boundOf_sound hlo h1 h1n with ⟨-, rfl, rfl⟩ | ⟨k', rfl⟩
    · simp only [Instr.sliceBounds, Sem.run_bind, Sem.run_pure, Result.andThen_ok]
    · simp only [Instr.sliceBounds, Sem.run_bind, Sem.run_pure, Result.andThen_ok, run_sliceBound hlr]
  · rcases boundOf_sound hlo h1 h1n with ⟨-, rfl, rfl⟩ | ⟨k', rfl⟩
    · simp only [Instr.sliceBounds, Sem.run_bind, Sem.run_pure, Result.andThen_ok, run_sliceBound hr]
    · simp only [Instr.sliceBounds, Sem.run_bind, Sem.run_pure, Result.andThen_ok, run_sliceBound hlr, run_sliceBound hr]

theorem bytes_extract (s : ByteArray) (l r : Nat) : (⟨((s.data.toList.drop l).take (r - l)).toArray⟩ : ByteArray) = s.extract l r := by
  apply bytes_mk
  rw [ByteArray.data_extract, Array.toList_extract, List.extract_eq_take_drop]

def OptVR (f : Emb) (x x' : Option Value) : Prop := (∀ v, x = some v → ∃ v', x' = some v' ∧ VR f v v') ∧ (x = none → x' = none)

theorem evOpt_sound {f : Emb} {sz : Nat} {t : Tr Value} {tm : Array Value} (T : TR f sz t tm) {o : Option Operand} {x : Option Value} (h : evOpt t o = some x) : OptVR f x (o.map (evC tm)) := by
  cases o with
  | none => cases h; exact ⟨fun v hv => (by cases hv), fun _ => rfl⟩
  | some o =>
    simp only [evOpt] at h
    split at h
    · rename_i v hv
      cases h
      exact ⟨fun u hu => (by cases hu; exact ⟨_, rfl, evA_sound T hv⟩), fun q => (by cases q)⟩
    · cases h

theorem aSlice_sound [Glob] {B : Bs} {f : Emb} {h : AH} {w : World} (r : Rel B f h w) {t : TypeId} {x x' v : Value} {lo lo' hi hi' mx mx' : Option Value} (hs : aSlice P t x lo hi mx h = some v)
    (hx : VR f x x') (hlo : OptVR f lo lo') (hhi : OptVR f hi hi') (hmx : OptVR f mx mx') : ∃ v', (Instr.sliceAt t x' lo' hi' mx').run P w = .ok v' w ∧ VR f v v' := by
  unfold aSlice at hs
  split at hs
  · rename_i s hu
    cases hx
    have hm := hmx.2 rfl; subst hm
    split at hs
    · rename_i l rr hl hr
      split at hs
      · rename_i hc
        cases hs
        simp only [Bool.and_eq_true] at hc
        have c1 := Nat.le_of_ble_eq_true hc.1
        have c2 := Nat.le_of_ble_eq_true hc.2
        refine ⟨_, ?_, .string _⟩
        rw [bytes_extract]
        have hsz := bytes_size s
        rw [← hsz] at hr c2
        have := run_sliceBounds (P := P) (cap := s.size) (cap' := s.size) false hl hr c1 c2 hlo.1 hlo.2 hhi.1 hhi.2 w
        simp only [Instr.sliceAt, Sem.run_bind, run_underlying hu, Result.andThen_ok, Instr.slice, Option.isSome_none, Bool.false_eq_true, if_false, Sem.run_pure, this]
      · cases hs
    · cases hs
  · rename_i e hu
    cases hx
    have hm := hmx.2 rfl; subst hm
    split at hs
    · rename_i n hl hr hn
      cases hs
      refine ⟨_, ?_, .nilSlice⟩
      have := run_sliceBounds (P := P) (cap := 0) (cap' := 0) true hl hr (Nat.le_refl _) (Nat.le_refl _) hlo.1 hlo.2 hhi.1 hhi.2 w
      simp only [Instr.sliceAt, Sem.run_bind, run_underlying hu, Result.andThen_ok, Instr.slice, this, run_sizeT hn]
      simp
    · cases hs
  · rename_i e b o len cap hu
    obtain ⟨L, o', hL, rfl, hlc, ho⟩ := hx.slice_inv
    have hm := hmx.2 rfl; subst hm
    split at hs
    · rename_i c eb slk ro n hg hn
      split at hs
      · rename_i l rr hl hr
        split at hs
        · rename_i hc
          simp only [Bool.and_eq_true] at hc
          have c1 := Nat.le_of_ble_eq_true hc.1
          have c2 := Nat.le_of_ble_eq_true hc.2
          have hrun := run_sliceBounds (P := P) (cap := cap) (cap' := cap + L.slack) true hl hr c1 (by omega) hlo.1 hlo.2 hhi.1 hhi.2 w
          have hO := r.obj b L _ hL hg
          obtain ⟨cc, fr, -, -, -, h4, -, -⟩ := hO
          split at hs
          · rename_i hq
            cases hs
            simp only [Bool.and_eq_true, Option.isNone_iff_eq_none] at hq
            have q2 := Nat.eq_of_beq_eq_true hq.2
            obtain ⟨s0, -⟩ := h4 hq.1
            refine ⟨.slice (some o') (rr - l) (cap - l + L.slack), ?_, .slice b o o' _ _ L hL (by omega) ?_⟩
            · simp only [Instr.sliceAt, Sem.run_bind, run_underlying hu, Result.andThen_ok, Instr.slice, hrun, run_sizeT hn, Sem.run_pure]
              rw [if_pos (by omega)]
              congr 2; omega
            · exact ho.imp id fun ⟨a1, a2⟩ => ⟨by omega, a2⟩
          · rename_i hq
            cases hs
            by_cases hml : cap + L.slack = l
            · refine ⟨.slice (some o') (rr - l) (cap - l + L.slack), ?_, .slice b (o + l * n) o' _ _ L hL (by omega) (.inr ⟨by omega, by omega⟩)⟩
              simp only [Instr.sliceAt, Sem.run_bind, run_underlying hu, Result.andThen_ok, Instr.slice, hrun, run_sizeT hn, Sem.run_pure]
              rw [if_pos hml]
              congr 2; omega
            · have ho' : o' = ⟨L.blk, L.sh + o, none⟩ := by
                rcases ho with ho | ⟨a1, a2⟩
                · exact ho
                · exfalso; omega
              subst ho'
              refine ⟨.slice (some ⟨L.blk, L.sh + o + l * n, none⟩) (rr - l) (cap - l + L.slack), ?_, .slice b (o + l * n) _ _ _ L hL (by omega) (.inl (by rw [Nat.add_assoc]))⟩
              simp only [Instr.sliceAt, Sem.run_bind, run_underlying hu, Result.andThen_ok, Instr.slice, hrun, run_sizeT hn, Sem.run_pure]
              rw [if_neg hml]
              simp only [Option.map_some, add_none]
              congr 2; omega
        · cases hs
      · cases hs
    · cases hs
  · rename_i m e b o hu
    obtain ⟨L, hL, rfl⟩ := hx.pointer_inv
    have hm := hmx.2 rfl; subst hm
    split at hs
    · rename_i c eb ro n hg hn
      split at hs
      · rename_i l rr hl hr
        split at hs
        · rename_i hc
          simp only [Bool.and_eq_true] at hc
          have c1 := Nat.le_of_ble_eq_true hc.1
          have c2 := Nat.le_of_ble_eq_true hc.2
          have hrun := run_sliceBounds (P := P) (cap := m) (cap' := m) false hl hr c1 c2 hlo.1 hlo.2 hhi.1 hhi.2 w
          have hO := r.obj b L _ hL hg
          obtain ⟨cc, fr, -, -, -, h4, -, -⟩ := hO
          obtain ⟨s0, -⟩ := h4 rfl
          split at hs
          · rename_i hq
            cases hs
            have q2 := Nat.eq_of_beq_eq_true hq
            refine ⟨.slice (some ⟨L.blk, L.sh + o, none⟩) (rr - l) (m - l + L.slack), ?_, .slice b o _ _ _ L hL (by omega) (.inl rfl)⟩
            simp only [Instr.sliceAt, Sem.run_bind, run_underlying hu, Result.andThen_ok, Instr.sureAddr, Sem.run_pure, hrun, run_sizeT hn]
            rw [if_pos q2.symm]
            congr 2; omega
          · rename_i hq
            cases hs
            have q2 : ¬ m = l := fun q => by subst q; simp at hq
            refine ⟨.slice (some ⟨L.blk, L.sh + (o + l * n), none⟩) (rr - l) (m - l + L.slack), ?_, .slice b _ _ _ _ L hL (by omega) (.inl rfl)⟩
            simp only [Instr.sliceAt, Sem.run_bind, run_underlying hu, Result.andThen_ok, Instr.sureAddr, Sem.run_pure, hrun, run_sizeT hn]
            rw [if_neg q2]
            simp only [add_none, Nat.add_assoc]
            congr 2; omega
        · cases hs
      · cases hs
    · cases hs
  · cases hs
end
end Go.Proofs.Xx
