/- The walks through civil: Day, split, Date, Weekday, Place. -/
import Derived.Test.YtpfimkjfonijcaaDoorCw
namespace Go.Proofs.YtpfimkjfonijcaaDoor.Cw
open Go.RowKit
theorem ret_ii {a b c d : Int} (h : a = b) (h' : c = d) : Ending.returned (.tuple #[.int .i64 a, .int .i64 c]) = .returned (.tuple #[.int .i64 b, .int .i64 d]) := by rw [h, h']
theorem split_bd (n : Int) (h1 : 0 ≤ n) (h2 : n ≤ 3652058) : 1 ≤ Civ.splitY n ∧ Civ.splitY n ≤ 9999 ∧ 0 ≤ Civ.splitA n ∧ Civ.splitA n ≤ 365 := by
  have h := Civ.split_spec h1 h2
  have o := Civ.one_bd (Civ.splitY n)
  omega
theorem results_tmp4 {fn : Func} {t u v x : Tmp} (h : fn.results = #[.tmp t, .tmp u, .tmp v, .tmp x]) (tmps : Array Value) (P : Program) (w : World) :
    (results fn tmps).run P w = .ok (.tuple #[tmps.getD t undef, tmps.getD u undef, tmps.getD v undef, tmps.getD x undef]) w := by simp [results, h]
theorem ret_4 {a b c d a' b' c' d' : Int} (h1 : a = a') (h2 : b = b') (h3 : c = c') (h4 : d = d') : Ending.returned (.tuple #[.int .i64 a, .int .i64 b, .int .i64 c, .int .i64 d]) = .returned (.tuple #[.int .i64 a', .int .i64 b', .int .i64 c', .int .i64 d']) := by rw [h1, h2, h3, h4]
set_option maxHeartbeats 400000 in
theorem day_any (y m d : Int) (w : World) (hT : Tab w) : Calls Tryd.prog 20 #[.int .i64 y, .int .i64 m, .int .i64 d] w fun e w' => e = .returned (.tuple #[.int .i64 (Civ.day y m d), .int .i64 (Civ.dayE y m d)]) ∧ w = w' := by
  have HT := Lib.hid hT
  clear hT
  have b1 := Civ.til_bd y m
  have b2 := Civ.len_bd y m
  by_cases h1 : 1 ≤ d
  · by_cases h2 : d ≤ Civ.len y m
    · obtain ⟨y1, y2, m1, m2⟩ := Civ.len_pos (y := y) (m := m) (by omega)
      go_enter Tryd.func20, Tryd.ntmps20
      go_wp2_with (first | (go_at_call 18; refine (len_any _ _ _ HT.out).mono ?_; rintro e w' ⟨rfl, rfl⟩) | (go_at_call 36; refine (til_any _ _ _ HT.out (by omega) (by omega)).mono ?_; rintro e w' ⟨rfl, rfl⟩))
      go_ret2
      exact ⟨ret_ii (by unfold Civ.day Civ.ahead; rw [if_neg (by omega)]) (by unfold Civ.dayE; rw [if_neg (by omega)]), rfl⟩
    · go_enter Tryd.func20, Tryd.ntmps20
      go_wp2_with (first | (go_at_call 18; refine (len_any _ _ _ HT.out).mono ?_; rintro e w' ⟨rfl, rfl⟩))
      go_ret2
      exact ⟨ret_ii (by unfold Civ.day; rw [if_pos (by omega)]) (by unfold Civ.dayE; rw [if_pos (by omega)]), rfl⟩
  · go_enter Tryd.func20, Tryd.ntmps20
    go_wp2
    go_ret2
    exact ⟨ret_ii (by unfold Civ.day; rw [if_pos (by omega)]) (by unfold Civ.dayE; rw [if_pos (by omega)]), rfl⟩
set_option maxHeartbeats 400000 in
theorem split_any (n : Int) (w : World) (h1 : 0 ≤ n) (h2 : n ≤ 3652058) : Calls Tryd.prog 35 #[.int .i64 n] w fun e w' => e = .returned (.tuple #[.int .i64 (Civ.splitY n), .int .i64 (Civ.splitA n)]) ∧ w = w' := by
  go_enter Tryd.func35, Tryd.ntmps35
  go_wp2
  all_goals
    go_ret2
    exact ⟨ret_ii (by unfold Civ.splitY Civ.olym Civ.yr Civ.rest2 Civ.rest1 Civ.cent; repeat' split <;> omega) (by unfold Civ.splitA Civ.yr Civ.rest2 Civ.rest1 Civ.cent; repeat' split <;> omega), rfl⟩
theorem isDay_any (n : Int) (w : World) : Calls Tryd.prog 34 #[.int .i64 n] w fun e w' => e = .returned (.bool (Civ.isDay n)) ∧ w = w' := by
  by_cases h1 : 0 ≤ n <;> by_cases h2 : n ≤ 3652058
  all_goals
    go_enter Tryd.func34, Tryd.ntmps34
    go_wp2
    go_ret
    exact ⟨ret_b (by simp [Civ.isDay, h1, h2]), rfl⟩
theorem weekday_any (n : Int) (w : World) : Calls Tryd.prog 21 #[.int .i64 n] w fun e w' => e = .returned (.int .i64 (Civ.weekday n)) ∧ w = w' := by
  cases h : Civ.isDay n
  · go_enter Tryd.func21, Tryd.ntmps21
    go_wp2_with (go_at_call 34; refine (isDay_any _ _).mono ?_; rintro e w' ⟨rfl, rfl⟩)
    go_ret
    exact ⟨ret_i (by simp [Civ.weekday, h]), rfl⟩
  · have hh := (Civ.isDay_iff n).1 h
    obtain ⟨h1, h2⟩ := hh
    go_enter Tryd.func21, Tryd.ntmps21
    go_wp2_with (go_at_call 34; refine (isDay_any _ _).mono ?_; rintro e w' ⟨rfl, rfl⟩)
    go_ret
    exact ⟨ret_i (by simp [Civ.weekday, h]), rfl⟩
theorem place_any (n : Int) (w : World) : Calls Tryd.prog 39 #[.int .i64 n] w fun e w' => e = .returned (.int .i64 (Civ.place n)) ∧ w = w' := by
  cases h : Civ.isDay n
  · go_enter Tryd.func39, Tryd.ntmps39
    go_wp2_with (go_at_call 34; refine (isDay_any _ _).mono ?_; rintro e w' ⟨rfl, rfl⟩)
    go_ret
    exact ⟨ret_i (by simp [Civ.place, h]), rfl⟩
  · obtain ⟨h1, h2⟩ := (Civ.isDay_iff n).1 h
    have hb := split_bd n h1 h2
    go_enter Tryd.func39, Tryd.ntmps39
    go_wp2_with (first | (go_at_call 34; refine (isDay_any _ _).mono ?_; rintro e w' ⟨rfl, rfl⟩) | (go_at_call 35; refine (split_any _ _ h1 h2).mono ?_; rintro e w' ⟨rfl, rfl⟩))
    go_ret
    exact ⟨ret_i (by simp [Civ.place, h]), rfl⟩
set_option maxHeartbeats 400000 in
theorem date_any (n : Int) (w : World) (hT : Tab w) : Calls Tryd.prog 17 #[.int .i64 n] w fun e w' => e = .returned (.tuple #[.int .i64 (Civ.dateY n), .int .i64 (Civ.dateM n), .int .i64 (Civ.dateD n), .int .i64 (Civ.dateE n)]) ∧ w = w' := by
  have HT := Lib.hid hT
  clear hT
  cases h : Civ.isDay n
  · go_enter Tryd.func17, Tryd.ntmps17
    go_wp2_with (go_at_call 34; refine (isDay_any _ _).mono ?_; rintro e w' ⟨rfl, rfl⟩)
    refine bodyPost_ret (results_tmp4 rfl _ _ _) rfl ?_
    exact ⟨ret_4 (by simp [Civ.dateY, h]) (by simp [Civ.dateM, h]) (by simp [Civ.dateD, h]) (by simp [Civ.dateE, h]), rfl⟩
  · obtain ⟨h1, h2⟩ := (Civ.isDay_iff n).1 h
    have hb := split_bd n h1 h2
    have b1 := Civ.til_bd (Civ.splitY n) (Civ.splitA n / 32 + 1)
    have b2 := Civ.til_bd (Civ.splitY n) (Civ.splitA n / 32 + 1 + 1)
    go_enter Tryd.func17, Tryd.ntmps17
    go_wp2_with (first | (go_at_call 34; refine (isDay_any _ _).mono ?_; rintro e w' ⟨rfl, rfl⟩) | (go_at_call 35; refine (split_any _ _ h1 h2).mono ?_; rintro e w' ⟨rfl, rfl⟩) | (go_at_call 36; refine (til_any _ _ _ HT.out (by omega) (by omega)).mono ?_; rintro e w' ⟨rfl, rfl⟩))
    all_goals
      refine bodyPost_ret (results_tmp4 rfl _ _ _) rfl ?_
      exact ⟨ret_4 (by simp [Civ.dateY, h]) (by simp only [Civ.dateM, h, if_true, Civ.month]; first | rw [if_pos (by omega)] | rw [if_neg (by omega)]) (by simp only [Civ.dateD, h, if_true, Civ.month]; first | rw [if_pos (by omega)] | rw [if_neg (by omega)]) (by simp [Civ.dateE, h]), rfl⟩
end Go.Proofs.YtpfimkjfonijcaaDoor.Cw
