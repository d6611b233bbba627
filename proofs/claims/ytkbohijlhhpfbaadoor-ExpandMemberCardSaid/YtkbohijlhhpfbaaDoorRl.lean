import Derived.Test.YtkbohijlhhpfbaaDoorRh
import Derived.Test.YtkbohijlhhpfbaaDoorMb
/- The walks through errandref20's Has and errandref21's first, numbered, list. -/
namespace Go.Proofs.YtkbohijlhhpfbaaDoor.Ra
open Go.RowKit Ru Ut Cw
theorem firstNZ_pre {l : List Int} {k : Nat} (h : ∀ x ∈ l.take k, x = 0) : firstNZ l = firstNZ (l.drop k) := by
  induction l generalizing k with
  | nil => simp
  | cons x l ih =>
    cases k with
    | zero => simp
    | succ k =>
      have h0 : x = 0 := h x (by simp)
      simp only [List.drop_succ_cons, firstNZ, if_pos h0]
      exact ih fun y hy => h y (by simp [hy])
theorem firstNZ_at {l : List Int} {k : Nat} (hk : k < l.length) (h : ∀ x ∈ l.take k, x = 0) (hx : ¬ l[k] = 0) : firstNZ l = l[k] := by
  rw [firstNZ_pre h, List.drop_eq_getElem_cons hk]
  simp [firstNZ, hx]
theorem firstNZ_none {l : List Int} {k : Nat} (hk : l.length ≤ k) (h : ∀ x ∈ l.take k, x = 0) : firstNZ l = 0 := by
  rw [firstNZ_pre h, List.drop_of_length_le hk]; rfl
theorem numbered_take {l : List (Int × Int)} {k : Nat} (hk : k < l.length) (h : numbered (l.take k) = false) (h0 : l[k].1 = 0) : numbered (l.take (k + 1)) = false := by
  unfold numbered at *
  rw [any_take hk, h, decide_eq_true h0]; rfl
end Go.Proofs.YtkbohijlhhpfbaaDoor.Ra

/- The walk through errandref21's list. -/
namespace Go.Proofs.YtkbohijlhhpfbaaDoor.Ra
open Go.RowKit Ru Ut Cw
theorem bad_yes {a b n : Int} {s : Bool} (h : bad a b s n = true) (h0 : 0 ≤ a) (h1 : a ≤ b) : (n < a ∧ s = false) ∨ (¬ n < a ∧ b < n ∧ s = false) ∨ (n < a ∧ s = true ∧ n < -b) ∨ (n < a ∧ s = true ∧ ¬ n < -b ∧ -a < n) ∨ (¬ n < a ∧ b < n ∧ s = true ∧ ¬ n < -b ∧ -a < n) := by
  have hb := absI_bd n
  unfold bad at h
  rw [b_or b_dec (b_or b_dec (b_or b_dec (b_and b_dec (b_not Iff.rfl))))] at h
  cases s <;> simp at h ⊢ <;> omega
theorem bad_no {a b n : Int} {s : Bool} (h : bad a b s n = false) : (¬ n < a ∧ ¬ b < n) ∨ (n < a ∧ s = true ∧ ¬ n < -b ∧ ¬ -a < n) := by
  have hb := absI_bd n
  rw [← Bool.not_eq_true] at h
  unfold bad at h
  rw [b_or b_dec (b_or b_dec (b_or b_dec (b_and b_dec (b_not Iff.rfl))))] at h
  cases s <;> simp at h ⊢ <;> omega
end Go.Proofs.YtkbohijlhhpfbaaDoor.Ra

