/- The walks through civil. -/
import Derived.Test.YtpfimkjfonijcaaDoorProg
import Derived.Test.YtpfimkjfonijcaaDoorCiv
import Derived.WalkKit
import Derived.Deep.QuietTactic
import Derived.BigQuiet
import Derived.Handy
import Derived.Lib.Hide
namespace Go.Proofs.YtpfimkjfonijcaaDoor.Cw
open Go.RowKit
/-- what the table's cells hold -/
def Tab (w : World) : Prop := ∀ i : Nat, i < 13 → w.cell? ⟨0, i, none⟩ = some (.int .i64 (Civ.cum (i + 1)))
theorem Tab.later {w w' : World} (h : Tab w) (hb : Below w.heap.size w w') : Tab w' :=
  fun i hi => (hb.cell (World.block_lt_of_cell? w _ (h i hi))).trans (h i hi)
theorem Tab.drewN {w : World} (h : Tab w) (n : Nat) : Tab (w.drewN n) := h
theorem ret_b {a b : Bool} (h : a = b) : Ending.returned (.bool a) = .returned (.bool b) := by rw [h]
theorem ret_i {k : IntKind} {a b : Int} (h : a = b) : Ending.returned (.int k a) = .returned (.int k b) := by rw [h]
theorem isYear_any (y : Int) (w : World) : Calls Tryd.prog 37 #[.int .i64 y] w fun e w' => e = .returned (.bool (Civ.isYear y)) ∧ w = w' := by
  by_cases h1 : 1 ≤ y <;> by_cases h2 : y ≤ 9999
  all_goals
    go_enter Tryd.func37, Tryd.ntmps37
    go_wp2
    go_ret
    exact ⟨by simp [Civ.isYear, h1, h2], rfl⟩
set_option maxHeartbeats 400000 in
theorem leap_any (y : Int) (w : World) : Calls Tryd.prog 38 #[.int .i64 y] w fun e w' => e = .returned (.bool (Civ.leap y)) ∧ w = w' := by
  by_cases hy : Civ.isYear y = true
  · have h1 : 1 ≤ y := by unfold Civ.isYear at hy; simp at hy; omega
    go_enter Tryd.func38, Tryd.ntmps38
    go_wp2_with (go_at_call 37; refine (isYear_any _ _).mono ?_; rintro e w' ⟨rfl, rfl⟩)
    all_goals
      go_ret
      exact ⟨ret_b (by simp [Civ.leap, *] <;> rfl), rfl⟩
  · go_enter Tryd.func38, Tryd.ntmps38
    go_wp2_with (go_at_call 37; refine (isYear_any _ _).mono ?_; rintro e w' ⟨rfl, rfl⟩)
    go_ret
    exact ⟨ret_b (by simp [Civ.leap, *]), rfl⟩
set_option maxHeartbeats 400000 in
theorem days_any (y : Int) (w : World) : Calls Tryd.prog 19 #[.int .i64 y] w fun e w' => e = .returned (.int .i64 (Civ.days y)) ∧ w = w' := by
  cases hy : Civ.isYear y <;> cases hl : Civ.leap y
  all_goals
    have hfin : Civ.days y = Civ.days y := rfl
    unfold Civ.days at hfin
    go_enter Tryd.func19, Tryd.ntmps19
    go_wp2_with (first | (go_at_call 37; refine (isYear_any _ _).mono ?_; rintro e w' ⟨rfl, rfl⟩) | (go_at_call 38; refine (leap_any _ _).mono ?_; rintro e w' ⟨rfl, rfl⟩))
    go_ret
    exact ⟨ret_i (by simp [Civ.days, hy, hl]), rfl⟩
set_option maxHeartbeats 400000 in
theorem til_any (y m : Int) (w : World) (hT : Tab w) (h1 : 1 ≤ m) (h2 : m ≤ 13) : Calls Tryd.prog 36 #[.int .i64 y, .int .i64 m] w fun e w' => e = .returned (.int .i64 (Civ.til y m)) ∧ w = w' := by
  have hc : w.cell? ⟨0, m.toNat - 1, none⟩ = some (.int .i64 (Civ.cum m)) := by
    have := hT (m.toNat - 1) (by omega)
    rw [this, show ((m.toNat - 1 : Nat) : Int) + 1 = m by omega]
  have c1 := Civ.cum_lo m
  have c2 := Civ.cum_hi m
  clear hT
  by_cases hm : 2 < m
  · cases hl : Civ.leap y
    all_goals
      go_enter Tryd.func36, Tryd.ntmps36
      go_wp2_with (go_at_call 38; refine (leap_any _ _).mono ?_; rintro e w' ⟨rfl, rfl⟩)
      go_ret
      exact ⟨ret_i (by simp [Civ.til, hm, hl]), rfl⟩
  · go_enter Tryd.func36, Tryd.ntmps36
    go_wp2
    go_ret
    exact ⟨ret_i (by unfold Civ.til; rw [if_neg (by omega)]; omega), rfl⟩
set_option maxHeartbeats 400000 in
theorem len_any (y m : Int) (w : World) (hT : Tab w) : Calls Tryd.prog 18 #[.int .i64 y, .int .i64 m] w fun e w' => e = .returned (.int .i64 (Civ.len y m)) ∧ w = w' := by
  have HT := Lib.hid hT
  clear hT
  have b1 := Civ.til_bd y m
  have b2 := Civ.til_bd y (m + 1)
  cases hy : Civ.isYear y
  · go_enter Tryd.func18, Tryd.ntmps18
    go_wp2_with (first | (go_at_call 37; refine (isYear_any _ _).mono ?_; rintro e w' ⟨rfl, rfl⟩))
    go_ret
    exact ⟨ret_i (by simp [Civ.len, hy]), rfl⟩
  · by_cases h1 : 1 ≤ m
    · by_cases h2 : m ≤ 12
      · go_enter Tryd.func18, Tryd.ntmps18
        go_wp2_with (first | (go_at_call 37; refine (isYear_any _ _).mono ?_; rintro e w' ⟨rfl, rfl⟩) | (go_at_call 36; refine (til_any _ _ _ HT.out (by omega) (by omega)).mono ?_; rintro e w' ⟨rfl, rfl⟩))
        go_ret
        exact ⟨ret_i (by simp [Civ.len, hy, h1, h2]), rfl⟩
      · go_enter Tryd.func18, Tryd.ntmps18
        go_wp2_with (first | (go_at_call 37; refine (isYear_any _ _).mono ?_; rintro e w' ⟨rfl, rfl⟩))
        go_ret
        exact ⟨ret_i (by unfold Civ.len; rw [if_neg (by omega)]), rfl⟩
    · go_enter Tryd.func18, Tryd.ntmps18
      go_wp2_with (first | (go_at_call 37; refine (isYear_any _ _).mono ?_; rintro e w' ⟨rfl, rfl⟩))
      go_ret
      exact ⟨ret_i (by unfold Civ.len; rw [if_neg (by omega)]), rfl⟩
end Go.Proofs.YtpfimkjfonijcaaDoor.Cw
