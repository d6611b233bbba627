import Derived.Test.YtkbohijlhhpfbaaGreatDoorProg
import Derived.Test.YtkbohijlhhpfbaaGreatDoorVYa
import Derived.WalkKit
import Derived.Deep.QuietTactic
import Derived.BigQuiet
import Derived.Handy
import Derived.Lib.Hide
/- The walks through civil. -/
namespace Go.Proofs.YtkbohijlhhpfbaaGreatDoor.Cw
open Go.RowKit
def Tab (w : World) : Prop := ∀ i : Nat, i < 13 → w.cell? ⟨0, i, none⟩ = some (.int .i64 (Civ.cum (i + 1)))
theorem Tab.later {w w' : World} (h : Tab w) (hb : Below w.heap.size w w') : Tab w' :=
 fun i hi => (hb.cell (World.block_lt_of_cell? w _ (h i hi))).trans (h i hi)
theorem Tab.drewN {w : World} (h : Tab w) (n : Nat) : Tab (w.drewN n) := h
theorem ret_b {a b : Bool} (h : a = b) : Ending.returned (.bool a) = .returned (.bool b) := by rw [h]
theorem ret_i {k : IntKind} {a b : Int} (h : a = b) : Ending.returned (.int k a) = .returned (.int k b) := by rw [h]
theorem isYear_any (y : Int) (w : World) : Calls Tryz.prog 146 #[.int .i64 y] w fun e w' => e = .returned (.bool (Civ.isYear y)) ∧ w = w' := by
 by_cases h1 : 1 ≤ y <;> by_cases h2 : y ≤ 9999
 all_goals
  go_enter Tryz.func146, Tryz.ntmps146
  go_wp2
  go_ret
  exact ⟨by simp [Civ.isYear, h1, h2], rfl⟩
set_option maxHeartbeats 400000 in
theorem leap_any (y : Int) (w : World) : Calls Tryz.prog 147 #[.int .i64 y] w fun e w' => e = .returned (.bool (Civ.leap y)) ∧ w = w' := by
 by_cases hy : Civ.isYear y = true
 ·have h1 : 1 ≤ y := by unfold Civ.isYear at hy; simp at hy; omega
  go_enter Tryz.func147, Tryz.ntmps147
  go_wp2_with (go_at_call 146; refine (isYear_any _ _).mono ?_; rintro e w' ⟨rfl, rfl⟩)
  all_goals
   go_ret
   exact ⟨ret_b (by simp [Civ.leap, *] <;> rfl), rfl⟩
 ·go_enter Tryz.func147, Tryz.ntmps147
  go_wp2_with (go_at_call 146; refine (isYear_any _ _).mono ?_; rintro e w' ⟨rfl, rfl⟩)
  go_ret
  exact ⟨ret_b (by simp [Civ.leap, *]), rfl⟩
set_option maxHeartbeats 400000 in
theorem days_any (y : Int) (w : World) : Calls Tryz.prog 107 #[.int .i64 y] w fun e w' => e = .returned (.int .i64 (Civ.days y)) ∧ w = w' := by
 cases hy : Civ.isYear y <;> cases hl : Civ.leap y
 all_goals
  have hfin : Civ.days y = Civ.days y := rfl
  unfold Civ.days at hfin
  go_enter Tryz.func107, Tryz.ntmps107
  go_wp2_with (first | (go_at_call 146; refine (isYear_any _ _).mono ?_; rintro e w' ⟨rfl, rfl⟩) | (go_at_call 147; refine (leap_any _ _).mono ?_; rintro e w' ⟨rfl, rfl⟩))
  go_ret
  exact ⟨ret_i (by simp [Civ.days, hy, hl]), rfl⟩
set_option maxHeartbeats 400000 in
theorem til_any (y m : Int) (w : World) (hT : Tab w) (h1 : 1 ≤ m) (h2 : m ≤ 13) : Calls Tryz.prog 143 #[.int .i64 y, .int .i64 m] w fun e w' => e = .returned (.int .i64 (Civ.til y m)) ∧ w = w' := by
 have hc : w.cell? ⟨0, m.toNat - 1, none⟩ = some (.int .i64 (Civ.cum m)) := by
  have := hT (m.toNat - 1) (by omega)
  rw [this, show ((m.toNat - 1 : Nat) : Int) + 1 = m by omega]
 have c1 := Civ.cum_lo m
 have c2 := Civ.cum_hi m
 clear hT
 by_cases hm : 2 < m
 ·cases hl : Civ.leap y
  all_goals
   go_enter Tryz.func143, Tryz.ntmps143
   go_wp2_with (go_at_call 147; refine (leap_any _ _).mono ?_; rintro e w' ⟨rfl, rfl⟩)
   go_ret
   exact ⟨ret_i (by simp [Civ.til, hm, hl]), rfl⟩
 ·go_enter Tryz.func143, Tryz.ntmps143
  go_wp2
  go_ret
  exact ⟨ret_i (by unfold Civ.til; rw [if_neg (by omega)]; omega), rfl⟩
set_option maxHeartbeats 400000 in
theorem len_any (y m : Int) (w : World) (hT : Tab w) : Calls Tryz.prog 108 #[.int .i64 y, .int .i64 m] w fun e w' => e = .returned (.int .i64 (Civ.len y m)) ∧ w = w' := by
 have HT := Lib.hid hT
 clear hT
 have b1 := Civ.til_bd y m
 have b2 := Civ.til_bd y (m + 1)
 cases hy : Civ.isYear y
 ·go_enter Tryz.func108, Tryz.ntmps108
  go_wp2_with (first | (go_at_call 146; refine (isYear_any _ _).mono ?_; rintro e w' ⟨rfl, rfl⟩))
  go_ret
  exact ⟨ret_i (by simp [Civ.len, hy]), rfl⟩
 ·by_cases h1 : 1 ≤ m
  ·by_cases h2 : m ≤ 12
   ·go_enter Tryz.func108, Tryz.ntmps108
    go_wp2_with (first | (go_at_call 146; refine (isYear_any _ _).mono ?_; rintro e w' ⟨rfl, rfl⟩) | (go_at_call 143; refine (til_any _ _ _ HT.out (by omega) (by omega)).mono ?_; rintro e w' ⟨rfl, rfl⟩))
    go_ret
    exact ⟨ret_i (by simp [Civ.len, hy, h1, h2]), rfl⟩
   ·go_enter Tryz.func108, Tryz.ntmps108
    go_wp2_with (first | (go_at_call 146; refine (isYear_any _ _).mono ?_; rintro e w' ⟨rfl, rfl⟩))
    go_ret
    exact ⟨ret_i (by unfold Civ.len; rw [if_neg (by omega)]), rfl⟩
  ·go_enter Tryz.func108, Tryz.ntmps108
   go_wp2_with (first | (go_at_call 146; refine (isYear_any _ _).mono ?_; rintro e w' ⟨rfl, rfl⟩))
   go_ret
   exact ⟨ret_i (by unfold Civ.len; rw [if_neg (by omega)]), rfl⟩
end Go.Proofs.YtkbohijlhhpfbaaGreatDoor.Cw
/- The walks through civil: Day, split, Date, Weekday, Place. -/
namespace Go.Proofs.YtkbohijlhhpfbaaGreatDoor.Cw
open Go.RowKit
theorem ret_ii {a b c d : Int} (h : a = b) (h' : c = d) : Ending.returned (.tuple #[.int .i64 a, .int .i64 c]) = .returned (.tuple #[.int .i64 b, .int .i64 d]) := by rw [h, h']
theorem split_bd (n : Int) (h1 : 0 ≤ n) (h2 : n ≤ 3652058) : 1 ≤ Civ.splitY n ∧ Civ.splitY n ≤ 9999 ∧ 0 ≤ Civ.splitA n ∧ Civ.splitA n ≤ 365 := by
 have h := Civ.split_spec h1 h2
 have o := Civ.one_bd (Civ.splitY n)
 omega
theorem results_tmp4 {fn : Func} {t u v x : Tmp} (h : fn.results = #[.tmp t, .tmp u, .tmp v, .tmp x]) (tmps : Array Value) (P : Program) (w : World) :
  (results fn tmps).run P w = .ok (.tuple #[tmps.getD t undef, tmps.getD u undef, tmps.getD v undef, tmps.getD x undef]) w := by simp [results, h]
theorem ret_4 {a b c d a' b' c' d' : Int} (h1 : a = a') (h2 : b = b') (h3 : c = c') (h4 : d = d') : Ending.returned (.tuple #[.int .i64 a, .int .i64 b, .int .i64 c, .int .i64 d]) = .returned (.tuple #[.int .i64 a', .int .i64 b', .int .i64 c', .int .i64 d']) := by rw [h1, h2, h3, h4]
set_option maxHeartbeats 400000 in
theorem day_any (y m d : Int) (w : World) (hT : Tab w) : Calls Tryz.prog 109 #[.int .i64 y, .int .i64 m, .int .i64 d] w fun e w' => e = .returned (.tuple #[.int .i64 (Civ.day y m d), .int .i64 (Civ.dayE y m d)]) ∧ w = w' := by
 have HT := Lib.hid hT
 clear hT
 have b1 := Civ.til_bd y m
 have b2 := Civ.len_bd y m
 by_cases h1 : 1 ≤ d
 ·by_cases h2 : d ≤ Civ.len y m
  ·obtain ⟨y1, y2, m1, m2⟩ := Civ.len_pos (y := y) (m := m) (by omega)
   go_enter Tryz.func109, Tryz.ntmps109
   go_wp2_with (first | (go_at_call 108; refine (len_any _ _ _ HT.out).mono ?_; rintro e w' ⟨rfl, rfl⟩) | (go_at_call 143; refine (til_any _ _ _ HT.out (by omega) (by omega)).mono ?_; rintro e w' ⟨rfl, rfl⟩))
   go_ret2
   exact ⟨ret_ii (by unfold Civ.day Civ.ahead; rw [if_neg (by omega)]) (by unfold Civ.dayE; rw [if_neg (by omega)]), rfl⟩
  ·go_enter Tryz.func109, Tryz.ntmps109
   go_wp2_with (first | (go_at_call 108; refine (len_any _ _ _ HT.out).mono ?_; rintro e w' ⟨rfl, rfl⟩))
   go_ret2
   exact ⟨ret_ii (by unfold Civ.day; rw [if_pos (by omega)]) (by unfold Civ.dayE; rw [if_pos (by omega)]), rfl⟩
 ·go_enter Tryz.func109, Tryz.ntmps109
  go_wp2
  go_ret2
  exact ⟨ret_ii (by unfold Civ.day; rw [if_pos (by omega)]) (by unfold Civ.dayE; rw [if_pos (by omega)]), rfl⟩
set_option maxHeartbeats 400000 in
theorem split_any (n : Int) (w : World) (h1 : 0 ≤ n) (h2 : n ≤ 3652058) : Calls Tryz.prog 142 #[.int .i64 n] w fun e w' => e = .returned (.tuple #[.int .i64 (Civ.splitY n), .int .i64 (Civ.splitA n)]) ∧ w = w' := by
 go_enter Tryz.func142, Tryz.ntmps142
 go_wp2
 all_goals
  go_ret2
  exact ⟨ret_ii (by unfold Civ.splitY Civ.olym Civ.yr Civ.rest2 Civ.rest1 Civ.cent; repeat' split <;> omega) (by unfold Civ.splitA Civ.yr Civ.rest2 Civ.rest1 Civ.cent; repeat' split <;> omega), rfl⟩
theorem isDay_any (n : Int) (w : World) : Calls Tryz.prog 141 #[.int .i64 n] w fun e w' => e = .returned (.bool (Civ.isDay n)) ∧ w = w' := by
 by_cases h1 : 0 ≤ n <;> by_cases h2 : n ≤ 3652058
 all_goals
  go_enter Tryz.func141, Tryz.ntmps141
  go_wp2
  go_ret
  exact ⟨ret_b (by simp [Civ.isDay, h1, h2]), rfl⟩
theorem weekday_any (n : Int) (w : World) : Calls Tryz.prog 139 #[.int .i64 n] w fun e w' => e = .returned (.int .i64 (Civ.weekday n)) ∧ w = w' := by
 cases h : Civ.isDay n
 ·go_enter Tryz.func139, Tryz.ntmps139
  go_wp2_with (go_at_call 141; refine (isDay_any _ _).mono ?_; rintro e w' ⟨rfl, rfl⟩)
  go_ret
  exact ⟨ret_i (by simp [Civ.weekday, h]), rfl⟩
 ·have hh := (Civ.isDay_iff n).1 h
  obtain ⟨h1, h2⟩ := hh
  go_enter Tryz.func139, Tryz.ntmps139
  go_wp2_with (go_at_call 141; refine (isDay_any _ _).mono ?_; rintro e w' ⟨rfl, rfl⟩)
  go_ret
  exact ⟨ret_i (by simp [Civ.weekday, h]), rfl⟩
theorem place_any (n : Int) (w : World) : Calls Tryz.prog 148 #[.int .i64 n] w fun e w' => e = .returned (.int .i64 (Civ.place n)) ∧ w = w' := by
 cases h : Civ.isDay n
 ·go_enter Tryz.func148, Tryz.ntmps148
  go_wp2_with (go_at_call 141; refine (isDay_any _ _).mono ?_; rintro e w' ⟨rfl, rfl⟩)
  go_ret
  exact ⟨ret_i (by simp [Civ.place, h]), rfl⟩
 ·obtain ⟨h1, h2⟩ := (Civ.isDay_iff n).1 h
  have hb := split_bd n h1 h2
  go_enter Tryz.func148, Tryz.ntmps148
  go_wp2_with (first | (go_at_call 141; refine (isDay_any _ _).mono ?_; rintro e w' ⟨rfl, rfl⟩) | (go_at_call 142; refine (split_any _ _ h1 h2).mono ?_; rintro e w' ⟨rfl, rfl⟩))
  go_ret
  exact ⟨ret_i (by simp [Civ.place, h]), rfl⟩
set_option maxHeartbeats 400000 in
theorem date_any (n : Int) (w : World) (hT : Tab w) : Calls Tryz.prog 100 #[.int .i64 n] w fun e w' => e = .returned (.tuple #[.int .i64 (Civ.dateY n), .int .i64 (Civ.dateM n), .int .i64 (Civ.dateD n), .int .i64 (Civ.dateE n)]) ∧ w = w' := by
 have HT := Lib.hid hT
 clear hT
 cases h : Civ.isDay n
 ·go_enter Tryz.func100, Tryz.ntmps100
  go_wp2_with (go_at_call 141; refine (isDay_any _ _).mono ?_; rintro e w' ⟨rfl, rfl⟩)
  refine bodyPost_ret (results_tmp4 rfl _ _ _) rfl ?_
  exact ⟨ret_4 (by simp [Civ.dateY, h]) (by simp [Civ.dateM, h]) (by simp [Civ.dateD, h]) (by simp [Civ.dateE, h]), rfl⟩
 ·obtain ⟨h1, h2⟩ := (Civ.isDay_iff n).1 h
  have hb := split_bd n h1 h2
  have b1 := Civ.til_bd (Civ.splitY n) (Civ.splitA n / 32 + 1)
  have b2 := Civ.til_bd (Civ.splitY n) (Civ.splitA n / 32 + 1 + 1)
  go_enter Tryz.func100, Tryz.ntmps100
  go_wp2_with (first | (go_at_call 141; refine (isDay_any _ _).mono ?_; rintro e w' ⟨rfl, rfl⟩) | (go_at_call 142; refine (split_any _ _ h1 h2).mono ?_; rintro e w' ⟨rfl, rfl⟩) | (go_at_call 143; refine (til_any _ _ _ HT.out (by omega) (by omega)).mono ?_; rintro e w' ⟨rfl, rfl⟩))
  all_goals
   refine bodyPost_ret (results_tmp4 rfl _ _ _) rfl ?_
   exact ⟨ret_4 (by simp [Civ.dateY, h]) (by simp only [Civ.dateM, h, if_true, Civ.month]; first | rw [if_pos (by omega)] | rw [if_neg (by omega)]) (by simp only [Civ.dateD, h, if_true, Civ.month]; first | rw [if_pos (by omega)] | rw [if_neg (by omega)]) (by simp [Civ.dateE, h]), rfl⟩
end Go.Proofs.YtkbohijlhhpfbaaGreatDoor.Cw
