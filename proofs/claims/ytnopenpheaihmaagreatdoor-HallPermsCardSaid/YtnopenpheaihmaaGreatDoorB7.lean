/-
  A region whose order is open and that turns no memory, over what is known of the slots.
-/
import Derived.Test.YtnopenpheaihmaaGreatDoorB6
namespace Go.Proofs.Xx
open Go
set_option linter.unusedSimpArgs false
set_option linter.unusedVariables false

theorem sameV_int (k : IntKind) (x : Int) : sameV (.int k x) (.int k x) = true := by simp [sameV, same1, same0]
theorem sameV_bool (x : Bool) : sameV (.bool x) (.bool x) = true := by cases x <;> rfl
theorem sameV_str (x : ByteArray) : sameV (.string x) (.string x) = true := by simp [sameV, same1, same0, eqBytes]
theorem sameV_ptr (b o : Nat) : sameV (.pointer (some ⟨b, o, none⟩)) (.pointer (some ⟨b, o, none⟩)) = true := by simp [sameV, same1, same0]
theorem sameV_slice (b o n c : Nat) : sameV (.slice (some ⟨b, o, none⟩) n c) (.slice (some ⟨b, o, none⟩) n c) = true := by simp [sameV, same1, same0]
theorem sameV_index {P : Program} {ty : TypeId} {x i p : Value} (h : aIndexAddr P ty x i = some p) : sameV p p = true := by
  unfold aIndexAddr at h
  split at h
  · split at h
    · cases h; exact sameV_ptr _ _
    · cases h
  · split at h
    · cases h; exact sameV_ptr _ _
    · cases h
  · cases h
theorem Rd.same {h : AH} {v : Value} {z n : Nat} {c : List Value} (r : Rd h v z n c) : sameV v v = true := by
  rcases r with ⟨rfl, rfl, rfl⟩ | ⟨b, o, cap, cc, e, s, q, rfl, h1, h2⟩
  · rfl
  · exact sameV_slice _ _ _ _

section
variable {P : Program} {X : Extern} {inR : Bool} {sz : Nat} {L : Ks} {h : AH} {Q : KQ} {ops : Array Oper}
theorem K_draw {id : Nat} (w : KO P X sz ops ops.toList L h (Q .norm)) (hd : drawOk ops = true := by decide +kernel) : K P X inR sz (.region id ops true) L h Q := fun t hk => W_draw hd (w t hk)
end
end Go.Proofs.Xx
