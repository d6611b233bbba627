/- The walk through errandlaw23's awake. -/
import Derived.Test.YtkbohijlhhpfbaaGreatDoorVYa
import Derived.Test.YtkbohijlhhpfbaaGreatDoorVDk
import Derived.Test.YtkbohijlhhpfbaaGreatDoorVLc
namespace Go.Proofs.YtkbohijlhhpfbaaGreatDoor.Da
open Go.RowKit Ru Ut Cw Ra
def svN (_ : Nat) : Value := .slice none 0 0
theorem nilI (W : World) : Ints W (.slice none 0 0) [] := .inl ⟨rfl, none, 0, rfl, fun _ => rfl⟩
theorem nilD (W : World) : Days W (.slice none 0 0) [] := .inl ⟨rfl, none, 0, rfl, fun _ => rfl⟩
theorem q_cases {P : Nat → Prop} (h4 : P 4) (h5 : P 5) (h6 : P 6) (h8 : P 8) (h9 : P 9) (h10 : P 10) (h11 : P 11) (h12 : P 12) : ∀ q, 4 ≤ q → q ≤ 12 → q ≠ 7 → P q := fun q a b c => by
 have hc : q = 4 ∨ q = 5 ∨ q = 6 ∨ q = 8 ∨ q = 9 ∨ q = 10 ∨ q = 11 ∨ q = 12 := by omega
 rcases hc with rfl | rfl | rfl | rfl | rfl | rfl | rfl | rfl <;> assumption
theorem listsN (W : World) (r : R) (h : ∀ q, 4 ≤ q → q ≤ 12 → q ≠ 7 → lst r q = []) (hd : r.day = []) : Lists W r svN := ⟨fun q a b c => by rw [h q a b c]; exact nilI W, by rw [hd]; exact nilD W⟩
end Go.Proofs.YtkbohijlhhpfbaaGreatDoor.Da
