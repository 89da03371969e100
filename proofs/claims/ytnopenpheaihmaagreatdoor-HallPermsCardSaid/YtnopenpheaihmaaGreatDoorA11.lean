/-
  clear, bytes and strings; then every operation at once: what the checked run does, the machine does.
-/
import Derived.Test.YtnopenpheaihmaaGreatDoorA10
import Derived.Laws.BytesString
import Derived.Laws.BytesArg
import Derived.Lib.UnsafeStr
namespace Go.Proofs.Xx
open Go
set_option linter.unusedSimpArgs false
set_option linter.unusedVariables false

section
variable {P : Program}

theorem aClear_sound [Glob] {B : Bs} {f : Emb} {h h' : AH} {w : World} (r : Rel B f h w) {t ty : TypeId} {ts : List TypeId} {x x' : Value} {rs : List Value} (hc : aClear P t x h = some h') (hx : VR f x x') :
    ∃ w', (Builtin.clear_ (t :: ts).toArray ty (x' :: rs).toArray).run P w = .ok (.tuple #[]) w' ∧ Rel B f h' w' ∧ Turn f h w f h' w' := by
  have e1 : ((t :: ts).toArray)[0]? = some t := by simp
  have e2 : ((x' :: rs).toArray)[0]? = some x' := by simp
  unfold aClear at hc
  split at hc
  · rename_i e hu
    cases hc; cases hx
    refine ⟨w, ?_, r, Turn.refl _ _ _⟩
    simp only [Builtin.clear_, e1, e2, Sem.run_bind, run_underlying hu, Result.andThen_ok]
    rfl
  · rename_i e b o n cap hu
    obtain ⟨L, o', hL, rfl, hlc, ho⟩ := hx.slice_inv
    split at hc
    · cases hc
      refine ⟨w, ?_, r, Turn.refl _ _ _⟩
      simp only [Builtin.clear_, e1, e2, Sem.run_bind, run_underlying hu, Result.andThen_ok]
      rfl
    · rename_i hn0
      have hn0 : n ≠ 0 := fun q => hn0 (by subst q; rfl)
      split at hc
      · rename_i z c eb slk hz hg
        obtain ⟨i, zv, hi, hzv, hzl, hsz, hz0, hpl⟩ := zeroCellsT_eq hz
        have hzr : VRs f z z := by rw [← hzl]; exact (VR.plain f zv hpl).cells
        obtain ⟨w', q1, q2, q3⟩ := putCells_sound (P := P) r hL hg hc (hzr.zeroRow n)
        have ho' : o' = ⟨L.blk, L.sh + o, none⟩ := by
          rcases ho with ho | ⟨h0, -⟩
          · exact ho
          · omega
        subst ho'
        refine ⟨w', ?_, q2, q3⟩
        have hzz : Builtin.zeroCells zv.cells n = (zeroRow z n).toArray := by
          have hlz : zv.cells.size = z.length := by rw [← hzl, Array.length_toList]
          unfold Builtin.zeroCells
          rw [← zeroRow_eq hzl hz0 n, hlz]
        have hzrun : (zeroValue e).run P w = .ok zv w := by simp [zeroValue, typeInfo, hi, hzv]
        obtain ⟨m, rfl⟩ : ∃ m, n = m + 1 := ⟨n - 1, by omega⟩
        simp only [Builtin.clear_, e1, e2, Sem.run_bind, run_underlying hu, Result.andThen_ok, hzrun, hzz, List.toList_toArray, q1, Sem.run_pure]
      · cases hc
  · cases hc

theorem bytesOf?_ints {xs : List Value} {s : List UInt8} (h : bytesOf? xs = some s) : ∃ ns : List Int, xs = ns.map (Value.int .u8) ∧ (ns.map fun n => UInt8.ofNat n.toNat) = s := by
  induction xs generalizing s with
  | nil => cases h; exact ⟨[], rfl, rfl⟩
  | cons v r ih =>
    simp only [bytesOf?] at h
    split at h
    · rename_i b t hb ht
      cases h
      obtain ⟨n, rfl, rfl⟩ := byteOf?_eq hb
      obtain ⟨ns, h1, h2⟩ := ih ht
      exact ⟨n :: ns, by simp [h1], by simp [h2]⟩
    · cases h

theorem aToString_sound [Glob] {B : Bs} {f : Emb} {h : AH} {w : World} (r : Rel B f h w) {s d : TypeId} {x x' v : Value} (hc : aToString P s d x h = some v) (hx : VR f x x') :
    ∃ v', (convert s d x').run P w = .ok v' w ∧ VR f v v' := by
  unfold aToString at hc
  split at hc
  · rename_i e h1 h2
    split at hc
    · rename_i h3
      cases hc; cases hx
      refine ⟨_, ?_, .string _⟩
      simp [convert, run_underlying h1, run_underlying h2, run_underlying h3, Conv.bytesToString]
      rfl
    · cases hc
  · rename_i e b o len cap h1 h2
    obtain ⟨L, o', hL, rfl, hlc, ho⟩ := hx.slice_inv
    split at hc
    · rename_i h3
      split at hc
      · rename_i c eb slk ro hg
        split at hc
        · rename_i xs hxs
          split at hc
          · rename_i bs hbs
            cases hc
            obtain ⟨xs', q1, q2, q3⟩ := (r.obj b L _ hL hg).seg hxs
            obtain ⟨ns, n1, n2⟩ := bytesOf?_ints hbs
            have hxx := (bytesOf?_VRs hbs q1).1
            subst hxx
            have hld : (loadCells o' len).run P w = .ok (ns.map (Value.int .u8)).toArray w := by
              by_cases hl0 : len = 0
              · subst hl0
                have : xs' = [] := List.length_eq_zero_iff.1 (by omega)
                rw [← n1, this]
                simp [loadCells, loadCellsFrom]
              · have ho' : o' = ⟨L.blk, L.sh + o, none⟩ := by
                  rcases ho with ho | ⟨h0, -⟩
                  · exact ho
                  · omega
                subst ho'
                rw [← n1]
                exact run_loadCells_seg q2 q3
            refine ⟨.string ⟨bs.toArray⟩, ?_, .string _⟩
            simp only [convert, Sem.run_bind, run_underlying h1, run_underlying h2, run_underlying h3, Result.andThen_ok]
            rw [run_bytesToString w _ len _ ns hld, foldl_push_bytes, n2]
            congr 2
            apply ByteArray.ext
            simp
          · cases hc
        · cases hc
      · cases hc
    · cases hc
  · cases hc

theorem aUnsafePtr_sound [Glob] {B : Bs} {f : Emb} {h : AH} {w : World} (r : Rel B f h w) {s d : TypeId} {x x' v : Value} (hc : aUnsafePtr P s d x h = some v) (hx : VR f x x') :
    ∃ v', (convert s d x').run P w = .ok v' w ∧ VR f v v' := by
  unfold aUnsafePtr at hc
  split at hc
  · rename_i t b o h1 h2
    obtain ⟨L, hL, rfl⟩ := hx.pointer_inv
    split at hc
    · rename_i c e slk ro n hg hs
      split at hc
      · rename_i hlt
        cases hc
        obtain ⟨cc, fr, hh, hsz, -⟩ := r.obj b L _ hL hg
        rw [Nat.blt_eq] at hlt
        have hsh : w.shape? L.blk = some (e, cc.size) := by simp [World.shape?, hh]
        refine ⟨_, ?_, .pointer b o L hL⟩
        have hseen : (Conv.seenAt ⟨L.blk, L.sh + o, none⟩).run P w = .ok ⟨L.blk, L.sh + o, none⟩ w := by
          simp [Conv.seenAt, viewAt, Sem.run_bind, run_shape, hsh]
        have hcells : (cellsIn L.blk).run P w = .ok (some cc.size) w := by
          simp [cellsIn, Sem.run_bind, run_shape, hsh]
        have hno : ¬ (cc.size ≤ L.sh + o) := by omega
        simp only [convert, Sem.run_bind, run_underlying h1, run_underlying h2, Result.andThen_ok, Conv.unsafePointer, hseen, hcells, run_sizeT hs]
        simp [hno]
      · cases hc
    · cases hc
  · rename_i u b o h1 h2
    obtain ⟨L, hL, rfl⟩ := hx.pointer_inv
    split at hc
    · rename_i c e n hg hs
      split at hc
      · rename_i hli
        cases hc
        obtain ⟨cc, fr, hh, hsz, -, hx1, -⟩ := r.obj b L _ hL hg
        obtain ⟨-, hx2⟩ := hx1 rfl
        obtain ⟨h3, h4⟩ := hx2 rfl
        have hsh : w.shape? L.blk = some (e, cc.size) := by simp [World.shape?, hh]
        refine ⟨_, ?_, .pointer b o L hL⟩
        have hseen : (Conv.seenAt ⟨L.blk, L.sh + o, none⟩).run P w = .ok ⟨L.blk, L.sh + o, none⟩ w := by
          simp [Conv.seenAt, viewAt, Sem.run_bind, run_shape, hsh]
        have hva : (variablesAt ⟨L.blk, L.sh + o, none⟩ u 1).run P w = .ok true w := by
          have : L.sh + o = o := by omega
          simp [variablesAt, Sem.run_bind, run_shape, hsh, this, h4, hli]
        simp only [convert, Sem.run_bind, run_underlying h1, run_underlying h2, Result.andThen_ok, Conv.unsafePointer, hseen, hva, run_sizeT hs]
        simp
      · cases hc
    · cases hc
  · cases hc

theorem aSliceData_sound {f : Emb} {w : World} {ts : Array TypeId} {ty : TypeId} {x x' v : Value} (hc : aSliceData x = some v) (hx : VR f x x') :
    ∃ v', (Builtin.unsafeSliceData_ ts ty #[x']).run P w = .ok v' w ∧ VR f v v' := by
  unfold aSliceData at hc
  split at hc
  · cases hc; cases hx
    exact ⟨_, Lib.run_unsafeSliceData_nil w ts ty 0 0, .nilPointer⟩
  · rename_i b o n cap
    cases hc
    obtain ⟨L, o', hL, rfl, hlc, ho⟩ := hx.slice_inv
    have ho' : o' = ⟨L.blk, L.sh + o, none⟩ := by
      rcases ho with ho | ⟨h0, -⟩
      · exact ho
      · omega
    subst ho'
    exact ⟨_, Lib.run_unsafeSliceData_row w ts ty _ _ _ (by omega), .pointer b o L hL⟩
  · cases hc

theorem liesAt_byte {e : TypeId} (hc : P.cellsOf e = 1) (count off n : Nat) (hn : off + n ≤ count) : liesAt P P.depth e count off e n = true := by
  have hd : P.depth = (2 * (P.types.size + Made.depth) + 1) + 1 := rfl
  rw [hd]
  simp only [liesAt, Bool.or_eq_true]
  left
  rw [hd]
  simp [rowAt, hc, hn, sameLayout]
  omega

theorem frozen_world {w : World} {b o n : Nat} {cc : Array Value} {e : TypeId} {fr : Nat × Nat} (hb : w.heap[b]? = some (.cells cc e fr)) : ∃ fr', Wrote w (w.freeze ⟨b, o, none⟩ n) b (.cells cc e fr') := by
  obtain ⟨lo, hi⟩ := fr
  unfold World.freeze
  split
  · exact ⟨(lo, hi), Wrote.same hb⟩
  · have hlt : b < w.heap.size := (Array.getElem?_eq_some_iff.1 hb).1
    have hv : w.heap[b] = .cells cc e (lo, hi) := (Array.getElem?_eq_some_iff.1 hb).2
    refine ⟨if lo == hi then (o, o + n) else (min lo o, max hi (o + n)), ?_, fun j hj => ?_, ?_, rfl, rfl, rfl⟩
    · rw [Array.getElem?_eq_getElem (by simpa using hlt), Array.getElem_modify]
      simp [hv]
    · simp [Array.getElem?_modify, Ne.symm hj]
    · simp

theorem run_loadInts {w : World} : ∀ (xs : List Int) (b o : Nat) (acc : ByteArray), (∀ (j : Nat) x, xs[j]? = some x → w.cell? ⟨b, o + j, none⟩ = some (.int .u8 x)) →
    (loadBytes ⟨b, o, none⟩ acc xs.length).run P w = .ok ⟨acc.data ++ (xs.map fun n => UInt8.ofNat n.toNat).toArray⟩ w
  | [], b, o, acc, _ => by simp [loadBytes]
  | x :: l, b, o, acc, h => by
    have h0 : w.cell? ⟨b, o, none⟩ = some (.int .u8 x) := h 0 x rfl
    have ih := run_loadInts l b (o + 1) (acc.push (UInt8.ofNat x.toNat)) (fun j y hy => by
      rw [show o + 1 + j = o + (j + 1) by omega]
      exact h (j + 1) y (by simpa using hy))
    have hx : x.toNat.toUInt8 = UInt8.ofNat x.toNat := rfl
    simp only [List.length_cons, loadBytes, Sem.run_bind, run_load, h0, Result.andThen, hx, add_none]
    rw [ih]
    congr 1
    apply ByteArray.ext
    simp [ByteArray.push]

theorem us_none (ts : Array TypeId) (ty : TypeId) (len : Value) : Builtin.unsafeString_ ts ty #[.pointer none, len] = (do
    let n ← asInt len
    let some pt := ts[0]? | stuck "unsafe.String: no argument types"
    if n < 0 then runtimePanic (.error "unsafe.String: len out of range")
    if n > IntKind.i64.max then unsupported (.unsafePointer "String: a length above the largest int")
    if n = 0 then pure (.string .empty)
    else runtimePanic (.error "unsafe.String: ptr is nil and len is not zero")) := rfl
theorem us_some (ts : Array TypeId) (ty : TypeId) (a : Addr) (len : Value) : Builtin.unsafeString_ ts ty #[.pointer (some a), len] = (do
    let n ← asInt len
    let some pt := ts[0]? | stuck "unsafe.String: no argument types"
    if n < 0 then runtimePanic (.error "unsafe.String: len out of range")
    if n > IntKind.i64.max then unsupported (.unsafePointer "String: a length above the largest int")
    if n = 0 then pure (.string .empty)
    else if ← variablesAt a (← elemOf pt) n.toNat then do
      let s ← loadBytes a .empty n.toNat
      freeze a n.toNat
      pure (.string s)
    else unsupported (.unsafePointer "String: not so many bytes at ptr")) := rfl

theorem aUnsafeString_sound [Glob] {B : Bs} {f : Emb} {h h' : AH} {w : World} (r : Rel B f h w) {types : List TypeId} {ty : TypeId} {p p' n n' v : Value} (hc : aUnsafeString P types p n h = some (v, h')) (hp : VR f p p') (hn : VR f n n') :
    ∃ v' w', (Builtin.unsafeString_ types.toArray ty #[p', n']).run P w = .ok v' w' ∧ Rel B f h' w' ∧ Turn f h w f h' w' ∧ VR f v v' := by
  have hmax : IntKind.i64.max = 9223372036854775807 := by decide
  unfold aUnsafeString at hc
  split at hc
  · cases hp; cases hn
    split at hc
    rotate_left
    · cases hc
    rename_i pt rest
    have e1 : ((pt :: rest).toArray)[0]? = some pt := by simp
    cases hc
    refine ⟨_, w, ?_, r, Turn.refl _ _ _, .string _⟩
    rw [us_none]
    simp only [Sem.run_bind, asInt, asIntOf, Sem.run_pure, Result.andThen_ok, e1, hmax]
    rw [if_neg (by decide), if_neg (by decide), if_pos trivial]
    rfl
  · rename_i b o kk k
    obtain ⟨L, hL, rfl⟩ := hp.pointer_inv
    cases hn
    split at hc
    rotate_left
    · cases hc
    rename_i pt rest
    have e1 : ((pt :: rest).toArray)[0]? = some pt := by simp
    split at hc
    rotate_left
    · cases hc
    rename_i e hu
    split at hc
    rotate_left
    · cases hc
    rename_i c eb slk hg hue hse
    split at hc
    rotate_left
    · cases hc
    rename_i xs hq hxs
    simp only [Bool.and_eq_true] at hq
    obtain rfl := Nat.eq_of_beq_eq_true hq.1
    have hk := Nat.le_of_ble_eq_true hq.2
    split at hc
    rotate_left
    · cases hc
    rename_i bs hbs
    have hO := r.obj b L _ hL hg
    obtain ⟨xs', q1, q2, q3⟩ := hO.seg hxs
    obtain ⟨ns, n1, n2⟩ := bytesOf?_ints hbs
    have hxx := (bytesOf?_VRs hbs q1).1
    subst hxx
    obtain ⟨cc, fr, h1, h2, h3, h4, h5, h6⟩ := hO
    have hnn : ¬ ((Int.ofNat k) < 0) := by have := Int.natCast_nonneg k; exact Int.not_lt.2 this
    have hnm : ¬ ((Int.ofNat k) > 9223372036854775807) := by
      intro q
      have q : (9223372036854775807 : Int) < (k : Int) := q
      omega
    split at hc
    · cases hc
      refine ⟨_, w, ?_, r, Turn.refl _ _ _, .string _⟩
      rw [us_some]
      simp only [Sem.run_bind, asInt, asIntOf, Sem.run_pure, Result.andThen_ok, e1, hmax]
      rw [if_neg (by decide), if_neg (by decide), if_pos (by decide)]
      rfl
    · rename_i hk0
      have hk0 : k ≠ 0 := fun q => hk0 (by subst q; rfl)
      cases hc
      have hxlen : xs'.length = k := q2
      have hbl : bs.length = k := by rw [(bytesOf?_VRs hbs q1).2, q2]
      have hc1 : P.cellsOf eb = 1 := by
        unfold sizeT at hse
        unfold Program.cellsOf
        cases hi : P.info? eb with
        | none => rw [hi] at hse; cases hse
        | some i => rw [hi] at hse; simp only [Option.some.injEq] at hse; simp [hse]
      have hnsl : ns.length = k := by rw [← q2, n1, List.length_map]
      have hcells : ∀ (j : Nat) x, ns[j]? = some x → w.cell? ⟨L.blk, L.sh + o + j, none⟩ = some (.int .u8 x) := by
        intro j x hj
        exact q3 j _ (by rw [n1, List.getElem?_map, hj]; rfl)
      have hlb := run_loadInts (P := P) ns L.blk (L.sh + o) .empty hcells
      have hrange : L.sh + o + k ≤ cc.size := by
        rcases (takeAt_eq hxs).2.2 with h | h
        · omega
        · omega
      have hlies := liesAt_byte (P := P) hc1 (cc.size / P.cellsOf eb) (L.sh + o) k (by rw [hc1, Nat.div_one]; exact hrange)
      obtain ⟨fr', hwr⟩ := frozen_world (o := L.sh + o) (n := k) h1
      obtain ⟨r1, r2⟩ := r.put hL hg rfl hwr (o' := .cells c eb slk true) ⟨cc, fr', hwr.here, h2, h3, (fun q => ⟨(h4 q).1, fun q => by cases q⟩), h5, fun q => by cases q⟩ (fun _ => rfl)
      refine ⟨_, _, ?_, r1, r2, .string ⟨bs.toArray⟩⟩
      have hkz : ¬ (Int.ofNat k = 0) := fun q => hk0 (Int.ofNat.inj q)
      have htn : (Int.ofNat k).toNat = k := rfl
      rw [hnsl, n2] at hlb
      rw [us_some]
      simp only [Sem.run_bind, asInt, asIntOf, Sem.run_pure, Result.andThen_ok, e1, hmax]
      rw [if_neg hnn, if_neg hnm, if_neg hkz]
      simp only [Sem.run_bind, elemOf, run_underlying hu, Sem.run_pure, Result.andThen_ok, variablesAt, run_program, run_shape, World.shape?, h1, htn, hlies, if_true, hlb, run_freeze]
      congr 2
      apply ByteArray.ext
      simp
  · cases hc
end
end Go.Proofs.Xx
