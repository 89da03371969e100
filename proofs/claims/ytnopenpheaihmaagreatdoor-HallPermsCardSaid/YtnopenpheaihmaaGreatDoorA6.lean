/-
  The other operations that turn no memory that was there: what the checked run does, the machine does.
-/
import Derived.Test.YtnopenpheaihmaaGreatDoorA5
namespace Go.Proofs.Xx
open Go
set_option linter.unusedSimpArgs false
set_option linter.unusedVariables false

section
variable {P : Program}

theorem bytes_toList_loop (bs : ByteArray) : ∀ (n i : Nat) (r : List UInt8), bs.size - i = n → ByteArray.toList.loop bs i r = r.reverse ++ bs.data.toList.drop i := by
  intro n
  induction n with
  | zero =>
    intro i r h
    rw [ByteArray.toList.loop, if_neg (by omega), List.drop_eq_nil_of_le (by rw [Array.length_toList]; exact (by omega : bs.size ≤ i)), List.append_nil]
  | succ n ih =>
    intro i r h
    have hi : i < bs.size := by omega
    rw [ByteArray.toList.loop, if_pos hi, ih _ _ (by omega), List.reverse_cons, List.append_assoc]
    congr 1
    have h2 : i < bs.data.toList.length := by rw [Array.length_toList]; exact hi
    rw [List.drop_eq_getElem_cons h2]
    simp only [List.singleton_append, List.cons.injEq, and_true]
    simp only [ByteArray.get!, Array.getElem_toList]
    exact getElem!_pos bs.data i hi
theorem bytes_toList (bs : ByteArray) : bs.toList = bs.data.toList := by
  unfold ByteArray.toList
  rw [bytes_toList_loop bs _ 0 [] rfl]; simp
theorem bytes_mk (s : ByteArray) (l : List UInt8) (h : s.data.toList = l) : (⟨l.toArray⟩ : ByteArray) = s := by
  subst h; cases s; simp
theorem eqBytes_eq (a b : ByteArray) : eqBytes a b = (a.toList == b.toList) := by unfold eqBytes; rw [bytes_toList, bytes_toList]
theorem bytes_size (a : ByteArray) : a.size = a.data.toList.length := by rw [Array.length_toList]; rfl

/-! ### parts -/
inductive PRs (f : Emb) : List (Nat × Value) → List (Nat × Value) → Prop where
  | nil : PRs f [] []
  | cons (i : Nat) (v v' : Value) (r r' : List (Nat × Value)) (h : VR f v v') (hr : PRs f r r') : PRs f ((i, v) :: r) ((i, v') :: r')

theorem evParts_sound {f : Emb} {sz : Nat} {t : Tr Value} {tm : Array Value} (T : TR f sz t tm) : ∀ {os : List (Nat × Operand)} {vs : List (Nat × Value)}, evParts t os = some vs → PRs f vs (os.map fun (i, x) => (i, evC tm x))
  | [], vs, h => by cases h; exact .nil
  | (i, o) :: r, vs, h => by
    simp only [evParts] at h
    split at h
    · cases h
      exact .cons _ _ _ _ _ (evA_sound T ‹_›) (evParts_sound T ‹_›)
    · cases h

theorem foldl_fill (off : Nat) : ∀ (xs : List Value) (k : Nat) (cells : Array Value), off + k + xs.length ≤ cells.size →
    (xs.zipIdx k).foldl (fun cs (p : Value × Nat) => cs.setIfInBounds (off + p.2) p.1) cells = (splice cells.toList (off + k) xs).toArray
  | [], k, cells, h => by
    apply Array.ext'
    simp [splice]
  | v :: rest, k, cells, h => by
    simp only [List.length_cons] at h
    rw [List.zipIdx_cons, List.foldl_cons, foldl_fill off rest (k + 1) _ (by simp; omega)]
    apply Array.ext'
    simp only [Array.toList_setIfInBounds]
    apply List.ext_getElem?
    intro j
    have hc : cells.toList.length = cells.size := Array.length_toList
    rw [splice_get _ _ _ (by rw [List.length_set]; omega), splice_get _ _ _ (by simp only [List.length_cons]; omega)]
    simp only [List.length_cons]
    by_cases k1 : j < off + k
    · rw [if_pos (by omega), if_pos k1, List.getElem?_set_ne (by omega)]
    · rw [if_neg k1]
      by_cases k2 : j = off + k
      · subst k2
        rw [if_pos (by omega), if_pos (by omega), List.getElem?_set_self (by omega)]; simp
      · rw [if_neg (by omega)]
        by_cases k3 : j < off + k + (rest.length + 1)
        · rw [if_pos (by omega), if_pos k3, show j - (off + k) = (j - (off + (k + 1))) + 1 by omega]; simp
        · rw [if_neg (by omega), if_neg k3, List.getElem?_set_ne (by omega)]

theorem fillL_sound {f : Emb} {place : Nat → Option (Nat × Nat)} : ∀ {parts parts' : List (Nat × Value)} {c c' d : List Value}, fillL place c parts = some d → VRs f c c' → PRs f parts parts' →
    ∃ d', Instr.fill place c'.toArray parts' = some d'.toArray ∧ VRs f d d'
  | [], _, c, c', d, h, hc, .nil => by cases h; exact ⟨c', rfl, hc⟩
  | (i, v) :: rest, _, c, c', d, h, hc, .cons _ _ v' _ r' hv hr => by
    simp only [fillL] at h
    split at h
    · cases h
    · rename_i off size hp
      split at h
      · rename_i hb
        simp only [Bool.and_eq_true] at hb
        have h1 : v.cells.toList.length = size := Nat.eq_of_beq_eq_true hb.1
        have h2 := Nat.le_of_ble_eq_true hb.2
        have h3 := hv.cells.length
        have h4 := hc.length
        obtain ⟨d', q1, q2⟩ := fillL_sound h (hc.splice hv.cells off) hr
        refine ⟨d', ?_, q2⟩
        have h5 : v'.cells.toList.length = v'.cells.size := Array.length_toList
        simp only [Instr.fill, hp]
        rw [if_neg (by
          have h6 : c'.toArray.size = c'.length := List.size_toArray
          simp only [Bool.or_eq_true, decide_eq_true_eq]
          rintro (q | q)
          · exact q (by omega)
          · omega), ← q1]
        congr 1
        rw [← Array.foldl_toList, Array.toList_zipIdx]
        exact foldl_fill off v'.cells.toList 0 c'.toArray (by simp only [List.size_toArray]; omega)
      · cases h

theorem placesT_eq : ∀ {fs : List Field} {ps : List (Nat × Nat)}, placesT P fs = some ps → fs.mapM (fun f => (P.info? f.type).map fun i => (f.offset, i.size)) = some ps
  | [], ps, h => by cases h; rfl
  | fd :: fs, ps, h => by
    simp only [placesT] at h
    split at h
    · rename_i n r hn hr
      cases h
      unfold sizeT at hn
      cases hi : P.info? fd.type with
      | none => rw [hi] at hn; cases hn
      | some i =>
        rw [hi] at hn; cases hn
        simp [List.mapM_cons, hi, placesT_eq hr]
    · cases h

theorem aBuild_sound {f : Emb} {w : World} {t : TypeId} {parts parts' : List (Nat × Value)} {v : Value} (h : aBuild P t parts = some v) (hp : PRs f parts parts') :
    ∃ v', (Instr.build t parts'.toArray).run P w = .ok v' w ∧ VR f v v' := by
  unfold aBuild at h
  split at h
  · rename_i z hz
    unfold zeroT at hz
    cases hi : P.info? t with
    | none => rw [hi] at hz; cases hz
    | some it =>
      rw [hi] at hz; simp only at hz
      split at h
      · rename_i hpl
        have hzr := (VR.plain f z hpl).cells
        split at h
        · rename_i fs hu
          split at h
          · rename_i ps hps
            split at h
            · rename_i c hc
              cases h
              obtain ⟨d', q1, q2⟩ := fillL_sound hc hzr hp
              refine ⟨.agg d'.toArray, ?_, .agg _ _ q2⟩
              refine run_build w t _ _ ?_
              unfold Program.built
              rw [hi, hu]
              simp only [hz, placesT_eq hps, List.toList_toArray]
              rw [← q1]
              simp
            · cases h
          · cases h
        · rename_i n e hu
          split at h
          · rename_i m hm
            split at h
            · rename_i c hc
              cases h
              obtain ⟨d', q1, q2⟩ := fillL_sound hc hzr hp
              refine ⟨.agg d'.toArray, ?_, .agg _ _ q2⟩
              refine run_build w t _ _ ?_
              unfold sizeT at hm
              cases he : P.info? e with
              | none => rw [he] at hm; cases hm
              | some ie =>
                rw [he] at hm; cases hm
                unfold Program.built
                rw [hi, hu]
                simp only [hz, he, List.toList_toArray]
                rw [← q1]
            · cases h
          · cases h
        · cases h
      · cases h
  · cases h

theorem zeroRow_length (z : List Value) : ∀ k, (zeroRow z k).length = k * z.length
  | 0 => by simp [zeroRow]
  | k + 1 => by simp only [zeroRow, List.length_append, zeroRow_length z k, Nat.succ_mul, Nat.add_comm]
theorem zeroRow_get (z : List Value) (hz : z.length ≠ 0) : ∀ k i, i < k * z.length → (zeroRow z k)[i]? = z[i % z.length]?
  | 0, i, h => by omega
  | k + 1, i, h => by
    rw [Nat.succ_mul] at h
    simp only [zeroRow, List.getElem?_append]
    by_cases hi : i < z.length
    · rw [if_pos hi, Nat.mod_eq_of_lt hi]
    · rw [if_neg hi, zeroRow_get z hz k _ (by omega)]
      congr 1
      exact (Nat.mod_eq_sub_mod (by omega : i ≥ z.length)).symm
theorem zeroRow_eq {zv : Array Value} {z : List Value} (h : zv.toList = z) (hz : z.length ≠ 0) (k : Nat) : (Array.range (k * z.length)).map (fun i => zv[i % zv.size]!) = (zeroRow z k).toArray := by
  subst h
  apply Array.ext'
  apply List.ext_getElem?
  intro i
  have hs : zv.toList.length = zv.size := Array.length_toList
  by_cases hi : i < k * zv.toList.length
  · have hlt : i % zv.size < zv.size := Nat.mod_lt _ (by omega)
    rw [zeroRow_get _ hz k i hi]
    rw [hs] at hi
    simp only [Array.getElem?_toList, Array.getElem?_map, Array.getElem?_range, hs, if_pos hi, Option.map_some]
    rw [Array.getElem?_eq_getElem hlt]
    exact congrArg some (getElem!_pos zv _ hlt)
  · have h1 := zeroRow_length zv.toList k
    rw [List.getElem?_eq_none (by simp only [Array.length_toList, Array.size_map, Array.size_range]; rw [hs] at hi; omega), List.getElem?_eq_none (by simp only [List.toList_toArray]; rw [h1]; omega)]
theorem VRs.zeroRow {f : Emb} {z : List Value} (h : VRs f z z) : ∀ k, VRs f (Xx.zeroRow z k) (Xx.zeroRow z k)
  | 0 => .nil
  | k + 1 => h.append (VRs.zeroRow h k)

theorem hr0 : Array.range 0 = (#[] : Array Nat) := rfl
theorem aBuildSlice_sound [Glob] {B : Bs} {f : Emb} {h h' : AH} {w : World} (r : Rel B f h w) {t : TypeId} {len : Nat} {parts parts' : List (Nat × Value)} {v : Value}
    (hb : aBuildSlice P t len parts h = some (v, h')) (hp : PRs f parts parts') :
    ∃ f' v' w', (Instr.buildSlice t len parts'.toArray).run P w = .ok v' w' ∧ Rel B f' h' w' ∧ Turn f h w f' h' w' ∧ VR f' v v' := by
  unfold aBuildSlice at hb
  split at hb
  · rename_i e he
    have hu := sliceElem_eq he
    split at hb
    · rename_i z hz
      obtain ⟨i, zv, hi, hzv, hzl, hsz, hz0, hpl⟩ := zeroCellsT_eq hz
      split at hb
      · rename_i hle
        have hle := Nat.le_of_ble_eq_true hle
        split at hb
        · rename_i c hc
          cases hb
          have hzr : VRs f z z := by rw [← hzl]; exact (VR.plain f zv hpl).cells
          obtain ⟨d', q1, q2⟩ := fillL_sound hc (hzr.zeroRow len) hp
          have hpush := pushed_newObj w (.cells d'.toArray e)
          obtain ⟨r1, r2⟩ := r.new q2 hpush
          refine ⟨_, .slice (some ⟨w.heap.size, 0, none⟩) len len, _, ?_, r1, r2, ?_⟩
          · have hsr : (sizeOf e).run P w = .ok z.length w := by simp [sizeOf, typeInfo, hi, hsz]
            have hzrun : (zeroValue e).run P w = .ok zv w := by simp [zeroValue, typeInfo, hi, hzv]
            simp only [Instr.buildSlice, Sem.run_bind, run_underlying hu, Result.andThen_ok, hsr, if_neg (show ¬ (len * z.length > 2 ^ 24) by omega)]
            by_cases hl0 : len * z.length = 0
            · have : len = 0 := by
                rcases Nat.mul_eq_zero.1 hl0 with h | h
                · exact h
                · exact absurd h hz0
              subst this
              have q1' : Instr.fill (fun i => some (i * z.length, z.length)) #[] parts' = some d'.toArray := q1
              simp only [Nat.zero_mul, if_true, Sem.run_pure, Result.andThen_ok]
              simp only [hr0, Array.map_empty, List.toList_toArray, q1', newRow, Sem.run_bind, run_newObj, Result.andThen_ok, Sem.run_pure]
            · rw [if_neg hl0]
              simp only [Sem.run_bind, hzrun, Result.andThen_ok, Sem.run_pure]
              have hzz : (Array.range (len * z.length)).map (fun i => zv.cells[i % zv.cells.size]!) = (zeroRow z len).toArray := zeroRow_eq hzl hz0 len
              rw [hzz]
              simp only [List.toList_toArray, q1, newRow, Sem.run_bind, run_newObj, Result.andThen_ok, Sem.run_pure]
          · exact VR.slice h.next 0 _ len len ⟨w.heap.size, 0, 0⟩ (Emb.put_same _ _ _) (Nat.le_refl _) (.inl rfl)
        · cases hb
      · cases hb
    · cases hb
  · cases hb

end
end Go.Proofs.Xx
