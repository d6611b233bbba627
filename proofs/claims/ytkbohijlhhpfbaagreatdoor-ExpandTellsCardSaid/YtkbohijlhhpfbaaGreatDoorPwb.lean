/- The walk through period.Step. -/
import Derived.Test.YtkbohijlhhpfbaaGreatDoorPw
namespace Go.Proofs.YtkbohijlhhpfbaaGreatDoor.Cw
open Go.RowKit
theorem idx2_0 (x y : Int) (w : World) : (Instr.index 191 (.agg #[.int .i64 x, .int .i64 y]) (.int .i64 0)).run Tryz.prog w = .ok (.int .i64 x) w := by kernel_rfl
theorem idx2_1 (x y : Int) (w : World) : (Instr.index 191 (.agg #[.int .i64 x, .int .i64 y]) (.int .i64 1)).run Tryz.prog w = .ok (.int .i64 y) w := by kernel_rfl
attribute [local go_sem] idx2_0 idx2_1
set_option maxHeartbeats 2000000 in
theorem step_any (a k b : Int) (w : World) : Calls Tryz.prog 135 #[.int .i64 a, .int .i64 k, .int .i64 b] w fun e w' => e = .returned (.int .i64 (Pd.step a k b)) ∧ w = w' := by
  by_cases k1 : 1 ≤ k
  · by_cases k2 : k ≤ 1000
    · by_cases a1 : 0 ≤ a
      · by_cases a2 : a ≤ 315537897600
        · by_cases b1 : 0 ≤ b
          · by_cases b2 : b ≤ 315537897600
            · by_cases hl : a < b
              · have r1 : 0 ≤ (b - a) % k := Int.emod_nonneg _ (by omega)
                have r2 : (b - a) % k < k := Int.emod_lt_of_pos _ (by omega)
                have hs : Pd.step a k b = a + (b - a + k - 1) / k * k := by unfold Pd.step; rw [if_neg (by omega), if_neg (by omega)]
                have Hs := Lib.hid hs
                clear hs
                by_cases hr : 0 < (b - a) % k
                · go_enter Tryz.func135, Tryz.ntmps135
                  go_wp2
                  go_rounds 3
                  go_ret
                  exact ⟨ret_i (by rw [Hs.out, Pd.up_pos (by omega) hr]), rfl⟩
                · have hz := Lib.hid (show (b - a) % k = 0 by omega)
                  go_enter Tryz.func135, Tryz.ntmps135
                  go_wp2
                  go_rounds 3
                  go_ret
                  exact ⟨ret_i (by rw [Hs.out, Pd.up_zero (by omega) hz.out]), rfl⟩
              · go_enter Tryz.func135, Tryz.ntmps135
                go_wp2
                go_rounds 3
                all_goals
                  go_ret
                  exact ⟨ret_i (by unfold Pd.step; rw [if_neg (by omega), if_pos (by omega)]), rfl⟩
            · go_enter Tryz.func135, Tryz.ntmps135
              go_wp2
              go_rounds 3
              all_goals
                go_ret
                exact ⟨ret_i (by unfold Pd.step; rw [if_pos (by omega)]), rfl⟩
          · go_enter Tryz.func135, Tryz.ntmps135
            go_wp2
            go_rounds 3
            all_goals
              go_ret
              exact ⟨ret_i (by unfold Pd.step; rw [if_pos (by omega)]), rfl⟩
        · go_enter Tryz.func135, Tryz.ntmps135
          go_wp2
          go_rounds 3
          all_goals
            go_ret
            exact ⟨ret_i (by unfold Pd.step; rw [if_pos (by omega)]), rfl⟩
      · go_enter Tryz.func135, Tryz.ntmps135
        go_wp2
        go_rounds 3
        all_goals
          go_ret
          exact ⟨ret_i (by unfold Pd.step; rw [if_pos (by omega)]), rfl⟩
    · go_enter Tryz.func135, Tryz.ntmps135
      go_wp2
      go_ret
      exact ⟨ret_i (by unfold Pd.step; rw [if_pos (by omega)]), rfl⟩
  · go_enter Tryz.func135, Tryz.ntmps135
    go_wp2
    go_ret
    exact ⟨ret_i (by unfold Pd.step; rw [if_pos (by omega)]), rfl⟩
end Go.Proofs.YtkbohijlhhpfbaaGreatDoor.Cw
