/- The walks through errandref21's days and until. -/
import Derived.Test.YtkbohijlhhpfbaaDoorRl
namespace Go.Proofs.YtkbohijlhhpfbaaDoor.Ra
open Go.RowKit Ru Ut Cw
theorem eqDr (a b c d : Int) (W : World) : (Op.equalIn 10000 85 (.agg #[.int .i64 a, .int .i64 b]) (.agg #[.int .i64 c, .int .i64 d])).run Tryd.prog W = .ok (decide (a = c) && decide (b = d)) W := by
  rw [run_equalIn_struct W 9999 _ _ _ (by kernel_rfl) (by kernel_rfl)]
  by_cases h1 : a = c <;> by_cases h2 : b = d <;> simp [go_sem, Tryd.underlying85, Tryd.underlying3, h1, h2]
theorem eqDr_no {a b c d : Int} (h : ¬ (a, b) = (c, d)) (W : World) : (Op.equalIn 10000 85 (.agg #[.int .i64 a, .int .i64 b]) (.agg #[.int .i64 c, .int .i64 d])).run Tryd.prog W = .ok false W := by
  rw [eqDr]
  by_cases h1 : a = c
  · have h2 : ¬ b = d := fun h2 => h (by rw [h1, h2])
    simp [h2]
  · simp [h1]
theorem eqDr_yes (a b : Int) (W : World) : (Op.equalIn 10000 85 (.agg #[.int .i64 a, .int .i64 b]) (.agg #[.int .i64 a, .int .i64 b])).run Tryd.prog W = .ok true W := by rw [eqDr]; simp
/-- what is wrong with a rule's end -/
def untilE (r : R) : Int := if r.uk = 0 ∧ r.us = 0 then 0 else if r.uk = 0 then 2 else if Mo.chk r.uk r.us ≠ 0 then Mo.chk r.uk r.us else if 0 < r.count then 9 else 0
end Go.Proofs.YtkbohijlhhpfbaaDoor.Ra
