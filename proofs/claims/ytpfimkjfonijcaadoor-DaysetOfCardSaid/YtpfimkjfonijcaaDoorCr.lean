/- The walks through errandref09: they come to the same plain functions. -/
import Derived.Test.YtpfimkjfonijcaaDoorCwb
namespace Go.Proofs.YtpfimkjfonijcaaDoor.Cw
open Go.RowKit
set_option maxHeartbeats 400000 in
theorem rLeap_any (y : Int) (w : World) : Calls Tryd.prog 60 #[.int .i64 y] w fun e w' => e = .returned (.bool (Civ.leap y)) ∧ w = w' := by
  by_cases h1 : 1 ≤ y
  · by_cases h2 : y ≤ 9999
    · have hl : Civ.leap y = (decide (y % 4 = 0) && (!decide (y % 100 = 0) || decide (y % 400 = 0))) := by simp [Civ.leap, Civ.isYear, h1, h2]
      have Hl := Lib.hid hl
      clear hl
      go_enter Tryd.func60, Tryd.ntmps60
      go_wp2
      all_goals
        go_ret
        exact ⟨ret_b (by rw [Hl.out]; simp [*] <;> first | rfl | omega), rfl⟩
    · go_enter Tryd.func60, Tryd.ntmps60
      go_wp2
      go_ret
      exact ⟨ret_b (by simp [Civ.leap, Civ.isYear]; omega), rfl⟩
  · go_enter Tryd.func60, Tryd.ntmps60
    go_wp2
    go_ret
    exact ⟨ret_b (by simp [Civ.leap, Civ.isYear]; omega), rfl⟩
set_option maxHeartbeats 400000 in
theorem rDays_any (y : Int) (w : World) : Calls Tryd.prog 33 #[.int .i64 y] w fun e w' => e = .returned (.int .i64 (Civ.days y)) ∧ w = w' := by
  by_cases h1 : 1 ≤ y
  · by_cases h2 : y ≤ 9999
    · cases hl : Civ.leap y
      all_goals
        go_enter Tryd.func33, Tryd.ntmps33
        go_wp2_with (go_at_call 60; refine (rLeap_any _ _).mono ?_; rintro e w' ⟨rfl, rfl⟩)
        go_ret
        exact ⟨ret_i (by simp [Civ.days, Civ.isYear, h1, h2, hl]), rfl⟩
    · go_enter Tryd.func33, Tryd.ntmps33
      go_wp2
      go_ret
      exact ⟨ret_i (by simp [Civ.days, Civ.isYear]; omega), rfl⟩
  · go_enter Tryd.func33, Tryd.ntmps33
    go_wp2
    go_ret
    exact ⟨ret_i (by simp [Civ.days, Civ.isYear]; omega), rfl⟩
theorem days_z (y : Int) : Civ.days y = 0 ↔ Civ.isYear y = false := by
  unfold Civ.days; cases h : Civ.isYear y <;> simp
  split <;> omega
theorem days_bd (y : Int) : 0 ≤ Civ.days y ∧ Civ.days y ≤ 366 := by unfold Civ.days; repeat' split <;> omega
set_option maxHeartbeats 400000 in
theorem rLen_any (y m : Int) (w : World) : Calls Tryd.prog 32 #[.int .i64 y, .int .i64 m] w fun e w' => e = .returned (.int .i64 (Civ.len y m)) ∧ w = w' := by
  have hb := days_bd y
  have hz := days_z y
  cases hy : Civ.isYear y
  · have h0 : (Civ.days y == 0) = true := by rw [hz.2 hy]; rfl
    clear hz hb
    go_enter Tryd.func32, Tryd.ntmps32
    go_wp2_with (go_at_call 33; refine (rDays_any _ _).mono ?_; rintro e w' ⟨rfl, rfl⟩)
    go_ret
    exact ⟨ret_i (by simp [Civ.len, hy]), rfl⟩
  · have h0 : (Civ.days y == 0) = false := by
      rw [beq_eq_false_iff_ne]; intro h; rw [hz.1 h] at hy; cases hy
    have h28 : Civ.days y - 337 = if Civ.leap y = true then 29 else 28 := by unfold Civ.days; simp only [hy, if_true]; split <;> omega
    have H28 := Lib.hid h28
    clear hz h28
    by_cases h1 : 1 ≤ m
    · by_cases h2 : m ≤ 12
      · have hl := Civ.len_eq hy h1 h2
        rcases Civ.month_cases h1 h2 with rfl | rfl | rfl | rfl | rfl | rfl | rfl | rfl | rfl | rfl | rfl | rfl
        all_goals
          simp at hl
          have Hl := Lib.hid hl
          clear hl
          go_enter Tryd.func32, Tryd.ntmps32
          go_wp2_with (go_at_call 33; refine (rDays_any _ _).mono ?_; rintro e w' ⟨rfl, rfl⟩)
          go_ret
          exact ⟨ret_i (by rw [Hl.out]; try exact H28.out), rfl⟩
      · go_enter Tryd.func32, Tryd.ntmps32
        go_wp2_with (go_at_call 33; refine (rDays_any _ _).mono ?_; rintro e w' ⟨rfl, rfl⟩)
        go_ret
        exact ⟨ret_i (by unfold Civ.len; rw [if_neg (by omega)]), rfl⟩
    · go_enter Tryd.func32, Tryd.ntmps32
      go_wp2_with (go_at_call 33; refine (rDays_any _ _).mono ?_; rintro e w' ⟨rfl, rfl⟩)
      go_ret
      exact ⟨ret_i (by unfold Civ.len; rw [if_neg (by omega)]), rfl⟩
theorem rAhead_any (y : Int) (w : World) (h1 : 1 ≤ y) (h2 : y ≤ 100000) : Calls Tryd.prog 59 #[.int .i64 y] w fun e w' => e = .returned (.int .i64 (Civ.ahead y)) ∧ w = w' := by
  go_enter Tryd.func59, Tryd.ntmps59
  go_wp2
  go_ret
  exact ⟨ret_i rfl, rfl⟩
set_option maxHeartbeats 400000 in
theorem rDay_any (y m d : Int) (w : World) : Calls Tryd.prog 92 #[.int .i64 y, .int .i64 m, .int .i64 d] w fun e w' => e = .returned (.tuple #[.int .i64 (Civ.day y m d), .int .i64 (Civ.dayE y m d)]) ∧ w = w' := by
  have b2 := Civ.len_bd y m
  by_cases h1 : 1 ≤ d
  · by_cases h2 : d ≤ Civ.len y m
    · obtain ⟨y1, y2, m1, m2⟩ := Civ.len_pos (y := y) (m := m) (by omega)
      have hdo := Civ.date_of y1 y2 m1 m2 h1 h2
      have ha0 : 0 ≤ Civ.ahead y ∧ Civ.ahead y ≤ 3652058 := by
        have := Civ.til_bd y m
        have e1 : Civ.ahead 1 = 0 := by decide
        have := Civ.ahead_mono (y := 1) (z := y) y1
        omega
      clear hdo
      go_enter Tryd.func92, Tryd.ntmps92
      go_wp2_with (first | (go_at_call 32; refine (rLen_any _ _ _).mono ?_; rintro e w' ⟨rfl, rfl⟩) | (go_at_call 59; refine (rAhead_any _ _ (by omega) (by omega)).mono ?_; rintro e w' ⟨rfl, rfl⟩))
      go_loop [8, 9] (fun n i => ∃ k : Int, 1 ≤ k ∧ k ≤ m ∧ i = .int .i64 k ∧ n = .int .i64 (Civ.ahead y + d - 1 + Civ.til y k)) (fun _ i => (m - intOf i).toNat)
      case atStart => exact ⟨1, by omega, by omega, rfl, by rw [Civ.til_first]; simp⟩
      case round =>
        obtain ⟨k, k1, k2, rfl, rfl⟩ := hrel
        have b3 := Civ.til_bd y k
        have b4 := Civ.len_bd y k
        by_cases hlt : k < m
        · have hs := Lib.hid (Civ.til_succ (y := y) (m := k) ((Civ.isYear_iff y).2 ⟨y1, y2⟩) (by omega) (by omega))
          go_wp2_with (first | (go_at_call 32; refine (rLen_any _ _ _).mono ?_; rintro e w' ⟨rfl, rfl⟩))
          go_round
          case rel => exact ⟨k + 1, by omega, by omega, rfl, by rw [hs.out]; go_num⟩
          case measure => simp [intOf]; omega
        · obtain rfl : k = m := by omega
          go_wp2
          go_ret2
          exact ⟨ret_ii (by unfold Civ.day; rw [if_neg (by omega)]; omega) (by unfold Civ.dayE; rw [if_neg (by omega)]), rfl⟩
    · go_enter Tryd.func92, Tryd.ntmps92
      go_wp2_with (first | (go_at_call 32; refine (rLen_any _ _ _).mono ?_; rintro e w' ⟨rfl, rfl⟩))
      go_ret2
      exact ⟨ret_ii (by unfold Civ.day; rw [if_pos (by omega)]) (by unfold Civ.dayE; rw [if_pos (by omega)]), rfl⟩
  · go_enter Tryd.func92, Tryd.ntmps92
    go_wp2
    go_ret2
    exact ⟨ret_ii (by unfold Civ.day; rw [if_pos (by omega)]) (by unfold Civ.dayE; rw [if_pos (by omega)]), rfl⟩
set_option maxHeartbeats 400000 in
theorem rDate_any (n : Int) (w : World) : Calls Tryd.prog 30 #[.int .i64 n] w fun e w' => e = .returned (.tuple #[.int .i64 (Civ.dateY n), .int .i64 (Civ.dateM n), .int .i64 (Civ.dateD n), .int .i64 (Civ.dateE n)]) ∧ w = w' := by
  by_cases h1 : 0 ≤ n
  · by_cases h2 : n ≤ 3652058
    · have hd := (Civ.isDay_iff n).2 ⟨h1, h2⟩
      have hs := Civ.split_spec h1 h2
      obtain ⟨y1, y2, m1, m2, d1, d2, de⟩ := Civ.date_spec h1 h2
      have hyr : Civ.ahead (Civ.dateY n) ≤ n ∧ n < Civ.ahead (Civ.dateY n + 1) := by
        have := Civ.date_of y1 y2 m1 m2 d1 d2
        rw [de] at this; exact this.2.2
      have ha0 : Civ.ahead (n / 366 + 1) ≤ n := by unfold Civ.ahead; omega
      have hle : n / 366 + 1 ≤ Civ.dateY n := by
        by_cases hh : Civ.dateY n < n / 366 + 1
        · have := Civ.ahead_mono (y := Civ.dateY n + 1) (z := n / 366 + 1) (by omega); omega
        · omega
      have hA : 0 ≤ Civ.ahead (Civ.dateY n) := by
        have e1 : Civ.ahead 1 = 0 := by decide
        have := Civ.ahead_mono (y := 1) (z := Civ.dateY n) y1
        omega
      have HM := Lib.hid (fun k (k1 : 1 ≤ k) (k2 : k < Civ.dateM n) => Civ.til_mono (y := Civ.dateY n) (m := k + 1) (k := Civ.dateM n) ((Civ.isYear_iff _).2 ⟨y1, y2⟩) (by omega) (by omega) (by omega))
      have hE : Civ.dateE n = 0 := by simp [Civ.dateE, hd]
      have HE := Lib.hid hE
      clear hs ha0 hE
      have Hde := Lib.hid de
      clear de hd
      generalize Civ.dateY n = Y at *
      generalize Civ.dateM n = M at *
      generalize Civ.dateD n = D at *
      go_enter Tryd.func30, Tryd.ntmps30
      go_wp2
      go_loop [6] (fun v => ∃ k : Int, n / 366 + 1 ≤ k ∧ k ≤ Y ∧ v = .int .i64 k) (fun v => (Y - intOf v).toNat)
      case atStart => exact ⟨_, by omega, by omega, rfl⟩
      case round =>
        obtain ⟨k, k1, k2, rfl⟩ := hrel
        by_cases hlt : k < Y
        · have hm : Civ.ahead (k + 1) ≤ n := by
            have := Civ.ahead_mono (y := k + 1) (z := Y) (by omega); omega
          go_wp2_with (first | (go_at_call 59; refine (rAhead_any _ _ (by omega) (by omega)).mono ?_; rintro e w' ⟨rfl, rfl⟩))
          go_round
          case rel => exact ⟨k + 1, by omega, by omega, rfl⟩
          case measure => simp [intOf]; omega
        · obtain rfl : k = Y := by omega
          have hm : n < Civ.ahead (k + 1) := hyr.2
          obtain ⟨hy1, hy2⟩ := hyr
          go_wp2_with (first | (go_at_call 59; refine (rAhead_any _ _ (by omega) (by omega)).mono ?_; rintro e w' ⟨rfl, rfl⟩))
          go_loop [7, 8] (fun m d => ∃ j : Int, 1 ≤ j ∧ j ≤ M ∧ m = .int .i64 j ∧ d = .int .i64 (n - Civ.ahead k + 1 - Civ.til k j)) (fun m _ => (M - intOf m).toNat)
          case atStart => exact ⟨1, by omega, by omega, rfl, by rw [Civ.til_first]; simp⟩
          case round =>
            obtain ⟨j, j1, j2, rfl, rfl⟩ := hrel
            have b3 := Civ.til_bd k j
            have b4 := Civ.len_bd k j
            by_cases hlt : j < M
            · have hs := Civ.til_succ (y := k) (m := j) ((Civ.isYear_iff k).2 ⟨y1, y2⟩) (by omega) (by omega)
              have hm := HM.out j j1 hlt
              have hde := Hde.out
              have hgo : Civ.len k j < n - Civ.ahead k + 1 - Civ.til k j := by omega
              have Hs := Lib.hid hs
              clear hs hm hde
              go_wp2_with (first | (go_at_call 32; refine (rLen_any _ _ _).mono ?_; rintro e w' ⟨rfl, rfl⟩))
              go_round
              case rel => exact ⟨j + 1, by omega, by omega, rfl, by rw [Hs.out]; go_num⟩
              case measure => simp [intOf]; omega
            · obtain rfl : j = M := by omega
              have hde := Hde.out
              have hno : n - Civ.ahead k + 1 - Civ.til k j ≤ Civ.len k j := by omega
              clear hde
              go_wp2_with (first | (go_at_call 32; refine (rLen_any _ _ _).mono ?_; rintro e w' ⟨rfl, rfl⟩))
              refine bodyPost_ret (results_tmp4 rfl _ _ _) rfl ?_
              exact ⟨ret_4 rfl rfl (by have := Hde.out; omega) HE.out.symm, rfl⟩
    · go_enter Tryd.func30, Tryd.ntmps30
      go_wp2
      refine bodyPost_ret (results_tmp4 rfl _ _ _) rfl ?_
      have hd : Civ.isDay n = false := by simp [Civ.isDay]; omega
      exact ⟨ret_4 (by simp [Civ.dateY, hd]) (by simp [Civ.dateM, hd]) (by simp [Civ.dateD, hd]) (by simp [Civ.dateE, hd]), rfl⟩
  · go_enter Tryd.func30, Tryd.ntmps30
    go_wp2
    refine bodyPost_ret (results_tmp4 rfl _ _ _) rfl ?_
    have hd : Civ.isDay n = false := by simp [Civ.isDay]; omega
    exact ⟨ret_4 (by simp [Civ.dateY, hd]) (by simp [Civ.dateM, hd]) (by simp [Civ.dateD, hd]) (by simp [Civ.dateE, hd]), rfl⟩
theorem rWeekday_any (n : Int) (w : World) : Calls Tryd.prog 81 #[.int .i64 n] w fun e w' => e = .returned (.int .i64 (Civ.weekday n)) ∧ w = w' := by
  by_cases h1 : 0 ≤ n <;> by_cases h2 : n ≤ 3652058
  all_goals
    go_enter Tryd.func81, Tryd.ntmps81
    go_wp2
    go_ret
    exact ⟨ret_i (by simp [Civ.weekday, Civ.isDay]; omega), rfl⟩
set_option maxHeartbeats 400000 in
theorem rPlace_any (n : Int) (w : World) : Calls Tryd.prog 31 #[.int .i64 n] w fun e w' => e = .returned (.int .i64 (Civ.place n)) ∧ w = w' := by
  by_cases h1 : 0 ≤ n
  · by_cases h2 : n ≤ 3652058
    · have hd := (Civ.isDay_iff n).2 ⟨h1, h2⟩
      obtain ⟨s1, s2, s3, s4, s5⟩ := Civ.split_spec h1 h2
      have hY : Civ.dateY n = Civ.splitY n := by simp [Civ.dateY, hd]
      have hP : Civ.place n = n - Civ.ahead (Civ.dateY n) + 1 := by simp only [Civ.place, hd, if_true, hY]; omega
      have hA : 0 ≤ Civ.ahead (Civ.dateY n) ∧ Civ.ahead (Civ.dateY n) ≤ n := by
        have e1 : Civ.ahead 1 = 0 := by decide
        have := Civ.ahead_mono (y := 1) (z := Civ.splitY n) s1
        rw [hY]; omega
      have HP := Lib.hid hP
      have HB : 1 ≤ Civ.dateY n ∧ Civ.dateY n ≤ 9999 := by rw [hY]; exact ⟨s1, s2⟩
      clear s1 s2 s3 s4 s5 hY hP hd
      go_enter Tryd.func31, Tryd.ntmps31
      go_wp2_with (first | (go_at_call 30; refine (rDate_any _ _).mono ?_; rintro e w' ⟨rfl, rfl⟩) | (go_at_call 59; refine (rAhead_any _ _ (by omega) (by omega)).mono ?_; rintro e w' ⟨rfl, rfl⟩))
      go_ret
      exact ⟨ret_i HP.out.symm, rfl⟩
    · go_enter Tryd.func31, Tryd.ntmps31
      go_wp2
      go_ret
      exact ⟨ret_i (by simp [Civ.place, Civ.isDay]; omega), rfl⟩
  · go_enter Tryd.func31, Tryd.ntmps31
    go_wp2
    go_ret
    exact ⟨ret_i (by simp [Civ.place, Civ.isDay]; omega), rfl⟩
end Go.Proofs.YtpfimkjfonijcaaDoor.Cw
