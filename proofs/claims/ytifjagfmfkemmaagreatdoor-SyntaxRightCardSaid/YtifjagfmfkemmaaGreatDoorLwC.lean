/- The law. -/
import Derived.Test.YtifjagfmfkemmaaGreatDoorLwB
set_option linter.unusedVariables false
set_option linter.unusedSimpArgs false
set_option maxHeartbeats 4000000
namespace Go.Proofs.YtifjagfmfkemmaaGreatDoor
open Eng
def okR (p0 : List UInt8) (i : Nat) (r : Except Int (List UInt8 × List UInt8)) (x : Option (Out (List UInt8 × Int × Int) Unit)) : Prop :=
 match r with
 | .ok (t, rest) => ∃ j : Nat, i < j ∧ j ≤ p0.length ∧ rest = p0.drop j ∧ x = some (.done (t, (j : Int), 0))
 | .error e => e ≠ 0 ∧ (x = some (.done ([], 0, e)) ∨ (e = 4 ∧ x = some (.go ())))
theorem okR.le {p0 : List UInt8} {i i' : Nat} {r : Except Int (List UInt8 × List UInt8)} {x : Option (Out (List UInt8 × Int × Int) Unit)} (h : okR p0 i' r x) (hi : i ≤ i') : okR p0 i r x := by
 unfold okR at h ⊢
 split at h
 ·obtain ⟨j, h1, h2⟩ := h; exact ⟨j, by omega, h2⟩
 ·exact h
end Go.Proofs.YtifjagfmfkemmaaGreatDoor
