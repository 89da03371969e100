/-
  append, clear: what the checked run does, the machine does.
-/
import Derived.Test.YtnopenpheaihmaaGreatDoorA9
namespace Go.Proofs.Xx
open Go
set_option linter.unusedSimpArgs false
set_option linter.unusedVariables false

section
variable {P : Program}

theorem growBy_le (newLen : Nat) : ∀ (rounds c : Nat), c ≤ newLen + (newLen + 768) / 4 → Builtin.growBy newLen rounds c ≤ newLen + (newLen + 768) / 4
  | 0, c, h => h
  | rounds + 1, c, h => by
    unfold Builtin.growBy
    split
    · exact h
    · exact growBy_le newLen rounds _ (by omega)
theorem nextslicecap_le {need cap : Nat} (h : cap < need) : Builtin.nextslicecap need cap ≤ 2 * need + 192 := by
  unfold Builtin.nextslicecap
  split
  · omega
  · split
    · omega
    · have := growBy_le need 4 cap (by omega)
      omega

theorem seg_world {w w2 : World} (h : w2.heap = w.heap) (a : Addr) : w2.cell? a = w.cell? a := by unfold World.cell?; rw [h]

theorem aSource_sound [Glob] {B : Bs} {f : Emb} {h : AH} {w : World} (r : Rel B f h w) {size n : Nat} {x x' : Value} {new : List Value} (hs : aSource size x h = some (n, new)) (hx : VR f x x') :
    ∃ new', VRs f new new' ∧ (∀ w2 : World, (Builtin.lenOf x').run P w2 = .ok n w2) ∧ ∀ w2 : World, w2.heap = w.heap → (Builtin.firstCells size n x').run P w2 = .ok new'.toArray w2 := by
  unfold aSource at hs
  split at hs
  · cases hs; cases hx
    exact ⟨[], .nil, fun _ => rfl, fun _ _ => rfl⟩
  · rename_i b o m cap
    obtain ⟨L, o', hL, rfl, hlc, ho⟩ := hx.slice_inv
    split at hs
    · rename_i c e sl ro hg
      split at hs
      · rename_i xs hxs
        cases hs
        obtain ⟨xs', q1, q2, q3⟩ := (r.obj b L _ hL hg).seg hxs
        refine ⟨xs', q1, fun _ => rfl, fun w2 hw => ?_⟩
        by_cases hn : n = 0
        · subst hn
          have : xs' = [] := List.length_eq_zero_iff.1 (by omega)
          subst this
          simp [Builtin.firstCells, loadCells, loadCellsFrom]
        · have ho' : o' = ⟨L.blk, L.sh + o, none⟩ := by
            rcases ho with ho | ⟨h0, -⟩
            · exact ho
            · omega
          subst ho'
          simp only [Builtin.firstCells]
          exact run_loadCells_seg q2 fun j v e => by rw [seg_world hw]; exact q3 j v e
      · cases hs
    · cases hs
  · rename_i s
    cases hs; cases hx
    refine ⟨_, VRs.plain f _ (List.all_eq_true.2 fun v hv => by obtain ⟨b, -, rfl⟩ := List.mem_map.1 hv; rfl), fun _ => ?_, fun w2 _ => ?_⟩
    · simp only [Builtin.lenOf, Sem.run_pure, bytes_size]
    · simp only [Builtin.firstCells, Sem.run_pure]
      congr 1
      apply Array.ext'
      rw [← bytes_size, Array.toList_map, ByteArray.data_extract, Array.toList_extract, List.extract_eq_take_drop, List.toList_toArray]
      congr 1
      rw [List.drop_zero, Nat.sub_zero, bytes_size, List.take_of_length_le (Nat.le_refl _)]
  · cases hs

theorem run_append_room {ts tx : TypeId} {e : TypeId} {d : TypeDesc} {ty : TypeId} {size n len cap : Nat} {base : Option Addr} {x' : Value} {new' : List Value} {w : World}
    (hu : P.underlying ts = some (.slice e)) (hd : ∀ k, d ≠ .int k) (hx : P.underlying tx = some d) (hsz : (sizeOf e).run P w = .ok size w)
    (hl : (Builtin.lenOf x').run P w = .ok n w) (hf : (Builtin.firstCells size n x').run P w = .ok new'.toArray w) (hc : len + n ≤ cap) :
    (Builtin.append_ #[ts, tx] ty #[.slice base len cap, x']).run P w =
      (((match base with | some a => storeCells (a.add (len * size)) new' | none => pure ()) : Sem Unit).run P w).andThen fun _ w' => .ok (.slice base (len + n) cap) w' := by
  have e1 : (#[ts, tx] : Array TypeId)[0]? = some ts := rfl
  have e2 : (#[ts, tx] : Array TypeId)[1]? = some tx := rfl
  have e3 : (#[Value.slice base len cap, x'] : Array Value)[0]? = some (.slice base len cap) := rfl
  have e4 : (#[Value.slice base len cap, x'] : Array Value)[1]? = some x' := rfl
  cases d
  case int k => exact absurd rfl (hd k)
  all_goals
    simp only [Builtin.append_, e1, e2, e3, e4, Sem.run_bind, run_underlying hu, run_underlying hx, Result.andThen_ok, Sem.run_pure, hsz, Bool.false_eq_true, if_false, Bool.not_false, if_true, hl, hf]
    rw [if_pos hc]
    simp only [Sem.run_bind, hf, Result.andThen_ok]
    cases base with
    | none => rfl
    | some a => simp only [Sem.run_bind]; rfl

theorem run_append_grow {ts tx : TypeId} {e : TypeId} {d : TypeDesc} {ty : TypeId} {z : List Value} {by_ n len cap : Nat} {base : Option Addr} {x' : Value} {old' new' : List Value} {w : World}
    (hu : P.underlying ts = some (.slice e)) (hd : ∀ k, d ≠ .int k) (hx : P.underlying tx = some d) (hz : zeroCellsT P e = some z) (hb : bytesT P e = some (by_ + 1))
    (hl : ∀ w2 : World, (Builtin.lenOf x').run P w2 = .ok n w2) (hf : ∀ w2 : World, w2.heap = w.heap → (Builtin.firstCells z.length n x').run P w2 = .ok new'.toArray w2)
    (ho : ∀ w2 : World, w2.heap = w.heap → (Builtin.firstCells z.length len (.slice base len cap)).run P w2 = .ok old'.toArray w2)
    (hc : cap < len + n) (hsm : (len + n) * (by_ + 1) ≤ 1099511627776) :
    ∃ newCap w', len + n ≤ newCap ∧ (Builtin.append_ #[ts, tx] ty #[.slice base len cap, x']).run P w = .ok (.slice (some ⟨w.heap.size, 0, none⟩) (len + n) newCap) w' ∧
      Pushed w w' (.cells (old' ++ (new' ++ zeroRow z (newCap - (len + n)))).toArray e) := by
  obtain ⟨i, zv, hi, hzv, hzl, hsz, hz0, hpl⟩ := zeroCellsT_eq hz
  have e1 : (#[ts, tx] : Array TypeId)[0]? = some ts := rfl
  have e2 : (#[ts, tx] : Array TypeId)[1]? = some tx := rfl
  have e3 : (#[Value.slice base len cap, x'] : Array Value)[0]? = some (.slice base len cap) := rfl
  have e4 : (#[Value.slice base len cap, x'] : Array Value)[1]? = some x' := rfl
  have hsr : ∀ w : World, (sizeOf e).run P w = .ok z.length w := fun w => by simp [sizeOf, typeInfo, hi, hsz]
  have hzrun : ∀ w : World, (zeroValue e).run P w = .ok zv w := fun w => by simp [zeroValue, typeInfo, hi, hzv]
  have hti : ∀ w : World, (typeInfo e).run P w = .ok i w := fun w => by simp [typeInfo, hi]
  have hby : i.bytes = by_ + 1 := by unfold bytesT at hb; rw [hi] at hb; simpa using hb
  have hns : ¬ (Builtin.nextslicecap (len + n) cap * i.bytes > 2 ^ 48) := by
    have h1 := nextslicecap_le hc
    have h2 : Builtin.nextslicecap (len + n) cap * (by_ + 1) ≤ (2 * (len + n) + 192) * (by_ + 1) := Nat.mul_le_mul_right _ h1
    have h3 : (2 * (len + n) + 192) * (by_ + 1) = 2 * ((len + n) * (by_ + 1)) + 192 * (by_ + 1) := by rw [Nat.add_mul, Nat.mul_assoc]
    have h4 : 1 * (by_ + 1) ≤ (len + n) * (by_ + 1) := Nat.mul_le_mul_right _ (by omega)
    have h5 : (2 : Nat) ^ 48 = 281474976710656 := by decide
    rw [hby, h5]; omega
  have hnc : len + n ≤ Question.cut (.appendCap (len + n) cap e) (w.tape w.drawn (.appendCap (len + n) cap e)) := Nat.le_add_right _ _
  refine ⟨Question.cut (.appendCap (len + n) cap e) (w.tape w.drawn (.appendCap (len + n) cap e)), { heap := w.heap.push (.cells (old'.toArray ++ new'.toArray ++ Builtin.zeroCells zv.cells (Question.cut (.appendCap (len + n) cap e) (w.tape w.drawn (.appendCap (len + n) cap e)) - (len + n))) e), tape := w.tape, drawn := w.drawn + 1, os := w.os, output := w.output }, hnc, ?_, ?_⟩
  · have hzz := fun k => zeroRow_eq hzl hz0 k
    rw [hby] at hns
    cases d
    case int k => exact absurd rfl (hd k)
    all_goals
      simp only [Builtin.append_, e1, e2, e3, e4, Sem.run_bind, run_underlying hu, run_underlying hx, Result.andThen_ok, Sem.run_pure, hsr, Bool.false_eq_true, if_false, Bool.not_false, if_true, hl]
      rw [if_neg (by omega)]
      simp only [Sem.run_bind, hti, Result.andThen_ok, hby]
      rw [if_neg (by rintro ⟨-, q⟩; simp at q)]
      simp only [Sem.run_bind, Sem.run_pure, Result.andThen_ok, if_neg hns, hti, hby, run_choose, Question.forced, Bool.false_eq_true, if_false, run_askRoom, ho, hf, hzrun, newRow, run_newObj]
  · refine ⟨?_, rfl, rfl, rfl⟩
    have hzz := zeroRow_eq hzl hz0 (Question.cut (.appendCap (len + n) cap e) (w.tape w.drawn (.appendCap (len + n) cap e)) - (len + n))
    have hlz : zv.cells.size = z.length := by rw [← hzl, Array.length_toList]
    have : Builtin.zeroCells zv.cells (Question.cut (.appendCap (len + n) cap e) (w.tape w.drawn (.appendCap (len + n) cap e)) - (len + n)) = (zeroRow z (Question.cut (.appendCap (len + n) cap e) (w.tape w.drawn (.appendCap (len + n) cap e)) - (len + n))).toArray := by
      unfold Builtin.zeroCells
      rw [← hzz, hlz]
    simp only [this, List.append_toArray, List.append_assoc]

theorem int_of_match {d : TypeDesc} (h : ∀ k, d = .int k → False) : ∀ k, d ≠ .int k := fun k q => h k q

theorem aAppend_sound [Glob] {B : Bs} {f : Emb} {h h' : AH} {w : World} (r : Rel B f h w) {types : List TypeId} {ty : TypeId} {s s' x x' v : Value}
    (ha : aAppend P types s x h = some (v, h')) (hs : VR f s s') (hx : VR f x x') :
    ∃ f' v' w', (Builtin.append_ types.toArray ty #[s', x']).run P w = .ok v' w' ∧ Rel B f' h' w' ∧ Turn f h w f' h' w' ∧ VR f' v v' := by
  unfold aAppend at ha
  split at ha
  rotate_left
  · cases ha
  rename_i ts tx
  split at ha
  · cases ha
  rotate_left
  · cases ha
  rename_i e d hint he hd
  have hu := sliceElem_eq he
  have hdi : ∀ k, d ≠ .int k := hint
  split at ha
  rotate_left
  · cases ha
  rename_i z by_ hz hb
  obtain ⟨i, zv, hi, hzv, hzl, hsz, hz0, hpl⟩ := zeroCellsT_eq hz
  have hsr : (sizeOf e).run P w = .ok z.length w := by simp [sizeOf, typeInfo, hi, hsz]
  have hzr : VRs f z z := by rw [← hzl]; exact (VR.plain f zv hpl).cells
  split at ha
  rotate_left
  · cases ha
  rename_i n new hsrc
  split at ha
  rotate_left
  · cases ha
  rename_i hcond
  simp only [Bool.and_eq_true] at hcond
  have hsm1 := Nat.le_of_ble_eq_true hcond.1
  have hone := hcond.2.1
  have hnl : new.length = n * z.length := Nat.eq_of_beq_eq_true hcond.2.2
  obtain ⟨new', hn1, hn2, hn3⟩ := aSource_sound r hsrc hx
  split at ha
  · -- a nil slice
    cases hs
    split at ha
    · cases ha
      refine ⟨f, .slice none 0 0, w, ?_, r, Turn.refl _ _ _, .nilSlice⟩
      rw [show (List.toArray [ts, tx]) = #[ts, tx] from rfl, run_append_room hu hdi hd hsr (hn2 w) (hn3 w rfl) (by omega)]
      rfl
    · rename_i hn0
      cases ha
      have hn0 : n ≠ 0 := fun q => hn0 (by subst q; rfl)
      obtain ⟨nc, w', q1, q2, q3⟩ := run_append_grow (old' := []) (ty := ty) (base := none) (len := 0) (cap := 0) hu hdi hd hz hb hn2 hn3 (fun _ _ => rfl) (by omega)
        (by rw [Nat.zero_add]; exact Nat.le_trans (Nat.mul_le_mul_right _ (by omega)) hsm1)
      rw [Nat.zero_add] at q1 q2 q3
      have hle := r.le_put ⟨w.heap.size, 0, nc - n⟩
      obtain ⟨r1, r2⟩ := r.add (s := nc - n) (o := .cells new e (some z.length) false) q3 (by
        refine ⟨_, (0, 0), q3.new, ?_, fun j u hj => ?_, (fun q => by cases q), fun k hk => ?_, (fun _ j q => by simp at q)⟩
        · simp only [List.nil_append, List.size_toArray, List.length_append, hn1.length]; omega
        · obtain ⟨u', p1, p2⟩ := (hn1.mono hle).get j u hj
          refine ⟨u', ?_, p2⟩
          have hjl : j < new'.length := by rw [hn1.length]; exact (List.getElem?_eq_some_iff.1 hj).1
          simp only [Nat.zero_add, List.nil_append, List.getElem?_toArray]
          rw [List.getElem?_append_left hjl]; exact p1
        · cases hk
          simp only [List.nil_append, List.size_toArray, List.length_append, hn1.length, zeroRow_length]; omega)
      refine ⟨_, _, w', q2, r1, r2, ?_⟩
      have := VR.slice (f := f.put h.next ⟨w.heap.size, 0, nc - n⟩) h.next 0 ⟨w.heap.size, 0, none⟩ n n ⟨w.heap.size, 0, nc - n⟩ (Emb.put_same _ _ _) (Nat.le_refl _) (.inl rfl)
      rw [show n + (nc - n) = nc by omega] at this
      exact this
  · rename_i b o len cap
    obtain ⟨L, o', hL, rfl, hlc, ho⟩ := hs.slice_inv
    simp only at ha
    split at ha
    rotate_left
    · cases ha
    rename_i c eb slk ro hg
    have hO := r.obj b L _ hL hg
    split at ha
    · rename_i hroom
      have hroom := Nat.le_of_ble_eq_true hroom
      split at ha
      · cases ha
        refine ⟨f, .slice (some o') len (cap + L.slack), w, ?_, r, Turn.refl _ _ _, .slice b o o' len cap L hL hlc ho⟩
        have hnil : new' = [] := List.length_eq_zero_iff.1 (by rw [hn1.length, hnl]; omega)
        rw [show (List.toArray [ts, tx]) = #[ts, tx] from rfl, run_append_room hu hdi hd hsr (hn2 w) (hn3 w rfl) (by omega), hnil]
        rfl
      · rename_i hn0
        have hn0 : n ≠ 0 := fun q => hn0 (by subst q; rfl)
        split at ha
        · cases ha
        · split at ha
          · rename_i h2 hput
            cases ha
            obtain ⟨w', q1, q2, q3⟩ := putCells_sound (P := P) r hL hg hput hn1
            have ho' : o' = ⟨L.blk, L.sh + o, none⟩ := by
              rcases ho with ho | ⟨h0, -⟩
              · exact ho
              · omega
            subst ho'
            refine ⟨f, .slice (some ⟨L.blk, L.sh + o, none⟩) (len + n) (cap + L.slack), w', ?_, q2, q3, .slice b o _ _ cap L hL hroom (.inl rfl)⟩
            rw [show (List.toArray [ts, tx]) = #[ts, tx] from rfl, run_append_room hu hdi hd hsr (hn2 w) (hn3 w rfl) (by omega)]
            simp only [add_none, Nat.add_assoc, q1, Result.andThen_ok]
          · cases ha
    · rename_i hroom
      have hroom : cap < len + n := by
        rcases Nat.lt_or_ge cap (len + n) with h | h
        · exact h
        · rw [Nat.ble_eq_true_of_le h] at hroom; cases hroom
      split at ha
      rotate_left
      · cases ha
      rename_i old hold hsm
      have hsm := Nat.le_of_ble_eq_true hsm
      obtain ⟨old', ho1, ho2, ho3⟩ := hO.seg hold
      have hn0 : n ≠ 0 := by omega
      have hread : ∀ w2 : World, w2.heap = w.heap → (Builtin.firstCells z.length len (.slice (some o') len (cap + L.slack))).run P w2 = .ok old'.toArray w2 := by
        intro w2 hw2
        by_cases hl0 : len = 0
        · subst hl0
          have : old' = [] := List.length_eq_zero_iff.1 (by omega)
          subst this
          simp [Builtin.firstCells, loadCells, loadCellsFrom]
        · have ho' : o' = ⟨L.blk, L.sh + o, none⟩ := by
            rcases ho with ho | ⟨h0, -⟩
            · exact ho
            · omega
          subst ho'
          simp only [Builtin.firstCells]
          exact run_loadCells_seg ho2 fun j v e => by rw [seg_world hw2]; exact ho3 j v e
      -- growing into a new block, the old one standing as o2 says
      have grow : ∀ (h1 : AH), Rel B f h1 w → Turn f h w f h1 w → h1.next = h.next → cap + L.slack < len + n →
          ∃ f' v' w', (Builtin.append_ #[ts, tx] ty #[.slice (some o') len (cap + L.slack), x']).run P w = .ok v' w' ∧ Rel B f' (h1.add (.cells (old ++ new) e (some z.length) false)) w' ∧
            Turn f h w f' (h1.add (.cells (old ++ new) e (some z.length) false)) w' ∧ VR f' (.slice (some ⟨h.next, 0, none⟩) (len + n) (len + n)) v' := by
        intro h1 r1 t1 hnx hgr
        obtain ⟨nc, w', q1, q2, q3⟩ := run_append_grow (ty := ty) (base := some o') hu hdi hd hz hb hn2 hn3 hread hgr hsm
        have hle := r1.le_put ⟨w.heap.size, 0, nc - (len + n)⟩
        have hall := (ho1.append hn1).mono hle
        have hll : (old ++ new).length = (len + n) * z.length := by
          rw [List.length_append, hnl, Nat.add_mul]
          have h9 := (takeAt_eq hold).2.1
          omega
        obtain ⟨r2, r3⟩ := r1.add (s := nc - (len + n)) (o := .cells (old ++ new) e (some z.length) false) q3 (by
          refine ⟨_, (0, 0), q3.new, ?_, fun j u hj => ?_, (fun q => by cases q), fun k hk => ?_, (fun _ j q => by simp at q)⟩
          · have h8 := hall.length
            simp only [List.length_append] at h8
            simp only [List.size_toArray, List.length_append]; omega
          · obtain ⟨u', p1, p2⟩ := hall.get j u hj
            refine ⟨u', ?_, p2⟩
            have hjl : j < (old' ++ new').length := (List.getElem?_eq_some_iff.1 p1).1
            simp only [Nat.zero_add, List.getElem?_toArray]
            rw [← List.append_assoc, List.getElem?_append_left hjl]; exact p1
          · cases hk
            have h8 := hall.length
            simp only [List.length_append] at h8
            simp only [List.size_toArray, List.length_append, zeroRow_length]; omega)
        refine ⟨_, _, w', q2, r2, t1.trans r3 r.dom, ?_⟩
        have := VR.slice (f := f.put h1.next ⟨w.heap.size, 0, nc - (len + n)⟩) h1.next 0 ⟨w.heap.size, 0, none⟩ (len + n) (len + n) ⟨w.heap.size, 0, nc - (len + n)⟩ (Emb.put_same _ _ _) (Nat.le_refl _) (.inl rfl)
        rw [show len + n + (nc - (len + n)) = nc by omega] at this
        rw [← hnx]
        exact this
      split at ha
      · cases ha
        obtain ⟨cc, fr, -, -, -, h4, -, -⟩ := hO
        obtain ⟨s0, -⟩ := h4 rfl
        rw [show (List.toArray [ts, tx]) = #[ts, tx] from rfl]
        exact grow h r (Turn.refl _ _ _) rfl (by omega)
      · rename_i k
        split at ha
        rotate_left
        · cases ha
        rename_i hk
        cases ha
        simp only [Bool.and_eq_true] at hk
        obtain rfl := Nat.eq_of_beq_eq_true hk.1.1
        obtain rfl := Nat.eq_of_beq_eq_true hk.1.2
        have hbound := Nat.le_of_ble_eq_true hk.2
        obtain ⟨rk, tk⟩ := r.kill hL
        rw [show (List.toArray [ts, tx]) = #[ts, tx] from rfl]
        by_cases hgr : cap + L.slack < len + n
        · exact grow _ rk tk rfl hgr
        · -- in place
          obtain ⟨cc, fr, h1, h2, h3, h4, h5, h6⟩ := hO
          have h5 := h5 _ rfl
          have ho' : o' = ⟨L.blk, L.sh + o, none⟩ := by
            rcases ho with ho | ⟨h0, h1⟩
            · exact ho
            · omega
          subst ho'
          have hm1 : (len + n) * z.length ≤ (cap + L.slack) * z.length := Nat.mul_le_mul_right _ (by omega)
          rw [Nat.add_mul, Nat.add_mul] at hm1
          have hnl' : new'.length = n * z.length := by rw [hn1.length, hnl]
          obtain ⟨w', q1, q2⟩ := run_storeCells_seg (P := P) (o := L.sh + o + len * z.length) new' 0 cc w h1 (by rw [hn1.one?]; exact hone) (by omega) (h6 rfl)
          rw [Nat.add_zero] at q2
          have hlen : L.sh + o + len * z.length + new'.length ≤ cc.toList.length := by
            have e1 : cc.toList.length = cc.size := Array.length_toList
            omega
          have hB := r.own b L _ hL hg rfl
          have hle := rk.le_put ⟨L.blk, L.sh + o, cap + L.slack - (len + n)⟩
          obtain ⟨hx1, hx2, hx3⟩ := takeAt_eq hold
          obtain ⟨r2, r3⟩ := rk.view (sh := L.sh + o) (s := cap + L.slack - (len + n)) (o := .cells (old ++ new) eb (some z.length) false) hL (lowest_le_right _ _) (fun b' L' p e1 e2 e3 => by
              rw [AH.get_put] at e2
              by_cases hbb : b' = b
              · rw [if_pos hbb] at e2; cases e2; cases e3
              · rw [if_neg hbb] at e2
                exact fun q => hbb (r.inj b' L' p b L _ e1 e2 hL hg q e3 rfl)) hB q2 (by
            refine ⟨_, fr, q2.here, ?_, fun j u hj => ?_, (fun q => by cases q), fun k hk => ?_, h6⟩
            · simp only [List.size_toArray, splice_length _ _ _ hlen, Array.length_toList, List.length_append, hx2, hnl]; omega
            · simp only [List.getElem?_toArray, splice_get _ _ _ hlen]
              rw [List.getElem?_append, hx2] at hj
              by_cases hj1 : j < len * z.length
              · rw [if_pos hj1, hx1] at hj
                rw [if_pos (by omega), Array.getElem?_toList]
                rw [List.getElem?_take, if_pos hj1, List.getElem?_drop] at hj
                obtain ⟨u', p1, p2⟩ := h3 _ _ hj
                exact ⟨u', by rw [Nat.add_assoc]; exact p1, p2.mono hle⟩
              · rw [if_neg hj1] at hj
                have hj2 : j - len * z.length < new.length := (List.getElem?_eq_some_iff.1 hj).1
                rw [if_neg (by omega), if_pos (by omega)]
                obtain ⟨u', p1, p2⟩ := (hn1.mono hle).get _ _ hj
                exact ⟨u', by rw [show L.sh + o + j - (L.sh + o + len * z.length) = j - len * z.length by omega]; exact p1, p2⟩
            · cases hk
              have hm2 : (cap + L.slack - (len + n)) * z.length + (len + n) * z.length = (cap + L.slack) * z.length := by rw [← Nat.add_mul]; congr 1; omega
              rw [Nat.add_mul, Nat.add_mul] at hm2
              simp only [List.size_toArray, splice_length _ _ _ hlen, Array.length_toList, List.length_append, hx2, hnl]; omega)
          refine ⟨_, .slice (some ⟨L.blk, L.sh + o, none⟩) (len + n) (cap + L.slack), w', ?_, r2, tk.trans r3 r.dom, ?_⟩
          · rw [run_append_room hu hdi hd hsr (hn2 w) (hn3 w rfl) (by omega)]
            simp only [add_none, q1, Result.andThen_ok]
          · have := VR.slice (f := f.put (h.put b .dead).next ⟨L.blk, L.sh + o, cap + L.slack - (len + n)⟩) (h.put b .dead).next 0 ⟨L.blk, L.sh + o, none⟩ (len + n) (len + n) ⟨L.blk, L.sh + o, cap + L.slack - (len + n)⟩ (Emb.put_same _ _ _) (Nat.le_refl _) (.inl rfl)
            rw [show len + n + (cap + L.slack - (len + n)) = cap + L.slack by omega] at this
            exact this
  · cases ha
end
end Go.Proofs.Xx
