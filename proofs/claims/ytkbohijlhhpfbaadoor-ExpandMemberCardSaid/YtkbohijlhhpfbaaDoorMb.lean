/- The walks through errandref11's small functions. -/
import Derived.Test.YtkbohijlhhpfbaaDoorMa
namespace Go.Proofs.YtkbohijlhhpfbaaDoor.Ma
open Go.RowKit Mo Ut Cw
theorem chk_of_why {k s c : Int} (h : why k s = c) (hc : c ≠ 0) : chk k s = c := by unfold chk; rw [h, if_pos hc]
theorem why_in {k s : Int} (h1 : 1 ≤ k) (h3 : k ≤ 3) (h0 : 0 ≤ s) (hm : s ≤ 315537897599) : why k s = 0 := by unfold why; rw [if_neg (by omega), if_neg (by omega)]
theorem why_kind {k s : Int} (h : k < 1 ∨ 3 < k) : why k s = 11 := by unfold why; rw [if_pos h]
theorem why_sec {k s : Int} (h1 : 1 ≤ k) (h3 : k ≤ 3) (h : s < 0 ∨ 315537897599 < s) : why k s = 8 := by unfold why; rw [if_neg (by omega), if_pos h]
theorem chk_in {k s : Int} (h : why k s = 0) : chk k s = if k = 1 ∧ s % 86400 ≠ 0 then 2 else 0 := by
  unfold chk; rw [if_neg (by omega)]; unfold secOf
  by_cases h1 : k = 1
  · rw [if_pos h1]
    by_cases h2 : s % 86400 = 0
    · rw [if_pos (by omega), if_neg (by omega)]
    · rw [if_neg (by omega), if_pos ⟨h1, h2⟩]
  · rw [if_neg h1, if_pos rfl, if_neg (by omega)]
theorem atV_ne {k s : Int} (h : why k s ≠ 0) : atV k s = val 0 0 := by unfold atV; rw [if_neg h]
theorem atV_in {k s : Int} (h : why k s = 0) : atV k s = val k (secOf k s) := by unfold atV; rw [if_pos h]
end Go.Proofs.YtkbohijlhhpfbaaDoor.Ma
