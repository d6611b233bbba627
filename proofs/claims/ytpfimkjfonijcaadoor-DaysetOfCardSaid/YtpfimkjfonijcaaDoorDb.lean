/- The walk through the closure of dayset's onDay. -/
import Derived.Test.YtpfimkjfonijcaaDoorDa
namespace Go.Proofs.YtpfimkjfonijcaaDoor.Da
open Go.RowKit Ru Ut Cw Ra
set_option maxHeartbeats 4000000 in
theorem onDay1_any (W : World) (bf bw o cap : Nat) (p q wd n0 n1 : Int) (hf : bf < W.heap.size) (hw : bw < W.heap.size) (c3 : W.cell? ⟨bf, 3, none⟩ = some (.int .i64 wd)) (cw : W.cell? ⟨bw, 0, none⟩ = some (.slice (some ⟨bf, o, none⟩) 2 cap)) (c0 : W.cell? ⟨bf, o, none⟩ = some (.int .i64 n0)) (c1 : W.cell? ⟨bf, o + 1, none⟩ = some (.int .i64 n1)) :
    Calls Tryd.prog 72 #[.agg #[.int .i64 p, .int .i64 q], .pointer (some ⟨bf, 0, none⟩), .pointer (some ⟨bw, 0, none⟩)] W fun e w' => e = .returned (.bool (decide (q = wd) && (decide (p = 0) || (decide (p = n0) || decide (p = n1))))) ∧ Below W.heap.size W w' := by
  by_cases h1 : q = wd
  · have g1 : (q == wd) = true := by simp [h1]
    by_cases h2 : p = 0
    · have g2 : (p == 0) = true := by simp [h2]
      have hr := Lib.hid (show (decide (q = wd) && (decide (p = 0) || (decide (p = n0) || decide (p = n1)))) = true by simp [h1, h2])
      clear h1 h2
      go_enter Tryd.func72, Tryd.ntmps72
      go_wp2
      go_quiet (fail)
      go_wp2
      go_ret
      exact ⟨ret_b hr.out.symm, Base.below_drewN (by (repeat' (first | assumption | exact Below.refl _ _ | apply Below.next_alloc | apply Below.drew | (apply Below.next; rotate_left; assumption)))) _⟩
    · have g2 : (p == 0) = false := by simp [h2]
      by_cases h3 : p = n0
      · have g3 : (p == n0) = true := by simp [h3]
        have hr := Lib.hid (show (decide (q = wd) && (decide (p = 0) || (decide (p = n0) || decide (p = n1)))) = true by simp [h1, h3])
        clear h1 h2 h3
        go_enter Tryd.func72, Tryd.ntmps72
        go_wp2
        go_quiet (fail)
        go_wp2
        go_ret
        exact ⟨ret_b hr.out.symm, Base.below_drewN (by (repeat' (first | assumption | exact Below.refl _ _ | apply Below.next_alloc | apply Below.drew | (apply Below.next; rotate_left; assumption)))) _⟩
      · have g3 : (p == n0) = false := by simp [h3]
        have hr := Lib.hid (show (decide (q = wd) && (decide (p = 0) || (decide (p = n0) || decide (p = n1)))) = (p == n1) by
          by_cases h4 : p = n1 <;> simp [h1, h2, h3, h4])
        clear h1 h2 h3
        cases g4 : p == n1
        all_goals
          go_enter Tryd.func72, Tryd.ntmps72
          go_wp2
          go_quiet (fail)
          go_wp2
          go_ret
          exact ⟨ret_b (by rw [hr.out, g4]), Base.below_drewN (by (repeat' (first | assumption | exact Below.refl _ _ | apply Below.next_alloc | apply Below.drew | (apply Below.next; rotate_left; assumption)))) _⟩
  · have g1 : (q == wd) = false := by simp [h1]
    have hr := Lib.hid (show (decide (q = wd) && (decide (p = 0) || (decide (p = n0) || decide (p = n1)))) = false by simp [h1])
    clear h1
    go_enter Tryd.func72, Tryd.ntmps72
    go_wp2
    go_quiet (fail)
    go_wp2
    go_ret
    exact ⟨ret_b hr.out.symm, Base.below_drewN (by (repeat' (first | assumption | exact Below.refl _ _ | apply Below.next_alloc | apply Below.drew | (apply Below.next; rotate_left; assumption)))) _⟩
end Go.Proofs.YtpfimkjfonijcaaDoor.Da
