/- The walks through dayset's small functions. -/
import Derived.Test.YtpfimkjfonijcaaDoorRi
import Derived.Test.YtpfimkjfonijcaaDoorDy
namespace Go.Proofs.YtpfimkjfonijcaaDoor.Da
open Go.RowKit Ru Ut Cw Ra
theorem which_any (a : Int) (h0 : 0 ≤ a) (h1 : a ≤ 1000000) (w : World) : Calls Tryd.prog 40 #[.int .i64 a] w fun e w' => e = .returned (.int .i64 (Dy.which a)) ∧ w = w' := by
  go_enter Tryd.func40, Tryd.ntmps40
  go_wp2
  go_ret
  exact ⟨rfl, rfl⟩
theorem hasB {l : List Int} {a b : Int} : Dy.has l a b = (decide (l.length = 0) || (decide (a ∈ l) || decide (b ∈ l))) := rfl
set_option maxHeartbeats 1000000 in
theorem has_any {w : World} {v : Value} {l : List Int} (a b : Int) (hl : Ints w v l) (hn : l.length ≤ 1000) : Calls Tryd.prog 47 #[v, .int .i64 a, .int .i64 b] w fun e w' => e = .returned (.bool (Dy.has l a b)) ∧ w = w' := by
  have F1 := Ra.has_any a hl (by omega)
  have F2 := Ra.has_any b hl (by omega)
  obtain ⟨p, c, rfl⟩ := hl.slice
  clear hl
  by_cases h0 : l.length = 0
  · have hr := Lib.hid (show Dy.has l a b = true by rw [hasB, decide_eq_true h0]; rfl)
    have hq : ((l.length : Int) == 0) = true := by simp [h0]
    clear F1 F2 h0
    go_enter Tryd.func47, Tryd.ntmps47
    go_wp2
    go_ret
    exact ⟨ret_b hr.out.symm, rfl⟩
  · have hq : ((l.length : Int) == 0) = false := by rw [beq_eq_false_iff_ne]; omega
    by_cases ha : a ∈ l
    · have hr := Lib.hid (show Dy.has l a b = true by rw [hasB, decide_eq_false h0, decide_eq_true ha]; rfl)
      rw [decide_eq_true ha] at F1
      have F1 := Lib.hid F1
      clear F2 ha h0
      go_enter Tryd.func47, Tryd.ntmps47
      go_wp2_with (first | (go_at_call 68; with_reducible refine F1.out.mono ?_; rintro e w' ⟨rfl, rfl⟩))
      go_ret
      exact ⟨ret_b hr.out.symm, rfl⟩
    · have hr := Lib.hid (show Dy.has l a b = decide (b ∈ l) by rw [hasB, decide_eq_false h0, decide_eq_false ha]; rfl)
      rw [decide_eq_false ha] at F1
      have G1 := Lib.hid F1
      have G2 := Lib.hid F2
      clear F1 F2 ha h0
      go_enter Tryd.func47, Tryd.ntmps47
      go_wp2_with (first | (go_at_call 68; with_reducible refine G1.out.mono ?_; rintro e w' ⟨rfl, rfl⟩; clear G1) | (go_at_call 68; with_reducible refine G2.out.mono ?_; rintro e w' ⟨rfl, rfl⟩))
      go_ret
      exact ⟨ret_b hr.out.symm, rfl⟩
end Go.Proofs.YtpfimkjfonijcaaDoor.Da
