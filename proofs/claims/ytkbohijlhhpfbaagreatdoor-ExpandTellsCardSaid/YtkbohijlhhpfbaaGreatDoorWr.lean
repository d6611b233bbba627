import Derived.Test.YtkbohijlhhpfbaaGreatDoorCwb
import Derived.Test.YtkbohijlhhpfbaaGreatDoorWw
/- The walks through errandref09: they come to the same plain functions. -/
namespace Go.Proofs.YtkbohijlhhpfbaaGreatDoor.Cw
open Go.RowKit
set_option maxHeartbeats 400000 in
theorem rLeap_any (y : Int) (w : World) : Calls Tryz.prog 117 #[.int .i64 y] w fun e w' => e = .returned (.bool (Civ.leap y)) ∧ w = w' := by
  by_cases h1 : 1 ≤ y
  · by_cases h2 : y ≤ 9999
    · have hl : Civ.leap y = (decide (y % 4 = 0) && (!decide (y % 100 = 0) || decide (y % 400 = 0))) := by simp [Civ.leap, Civ.isYear, h1, h2]
      have Hl := Lib.hid hl
      clear hl
      go_enter Tryz.func117, Tryz.ntmps117
      go_wp2
      all_goals
        go_ret
        exact ⟨ret_b (by rw [Hl.out]; simp [*] <;> first | rfl | omega), rfl⟩
    · go_enter Tryz.func117, Tryz.ntmps117
      go_wp2
      go_ret
      exact ⟨ret_b (by simp [Civ.leap, Civ.isYear]; omega), rfl⟩
  · go_enter Tryz.func117, Tryz.ntmps117
    go_wp2
    go_ret
    exact ⟨ret_b (by simp [Civ.leap, Civ.isYear]; omega), rfl⟩
set_option maxHeartbeats 400000 in
theorem rDays_any (y : Int) (w : World) : Calls Tryz.prog 83 #[.int .i64 y] w fun e w' => e = .returned (.int .i64 (Civ.days y)) ∧ w = w' := by
  by_cases h1 : 1 ≤ y
  · by_cases h2 : y ≤ 9999
    · cases hl : Civ.leap y
      all_goals
        go_enter Tryz.func83, Tryz.ntmps83
        go_wp2_with (go_at_call 117; refine (rLeap_any _ _).mono ?_; rintro e w' ⟨rfl, rfl⟩)
        go_ret
        exact ⟨ret_i (by simp [Civ.days, Civ.isYear, h1, h2, hl]), rfl⟩
    · go_enter Tryz.func83, Tryz.ntmps83
      go_wp2
      go_ret
      exact ⟨ret_i (by simp [Civ.days, Civ.isYear]; omega), rfl⟩
  · go_enter Tryz.func83, Tryz.ntmps83
    go_wp2
    go_ret
    exact ⟨ret_i (by simp [Civ.days, Civ.isYear]; omega), rfl⟩
theorem days_z (y : Int) : Civ.days y = 0 ↔ Civ.isYear y = false := by
  unfold Civ.days; cases h : Civ.isYear y <;> simp
  split <;> omega
theorem days_bd (y : Int) : 0 ≤ Civ.days y ∧ Civ.days y ≤ 366 := by unfold Civ.days; repeat' split <;> omega
set_option maxHeartbeats 400000 in
theorem rLen_any (y m : Int) (w : World) : Calls Tryz.prog 82 #[.int .i64 y, .int .i64 m] w fun e w' => e = .returned (.int .i64 (Civ.len y m)) ∧ w = w' := by
  have hb := days_bd y
  have hz := days_z y
  cases hy : Civ.isYear y
  · have h0 : (Civ.days y == 0) = true := by rw [hz.2 hy]; rfl
    clear hz hb
    go_enter Tryz.func82, Tryz.ntmps82
    go_wp2_with (go_at_call 83; refine (rDays_any _ _).mono ?_; rintro e w' ⟨rfl, rfl⟩)
    go_ret
    exact ⟨ret_i (by simp [Civ.len, hy]), rfl⟩
  · have h0 : (Civ.days y == 0) = false := by
      rw [beq_eq_false_iff_ne]; intro h; rw [hz.1 h] at hy; cases hy
    have h28 : Civ.days y - 337 = if Civ.leap y = true then 29 else 28 := by unfold Civ.days; simp only [hy, if_true]; split <;> omega
    have H28 := Lib.hid h28
    clear hz h28
    by_cases h1 : 1 ≤ m
    · by_cases h2 : m ≤ 12
      · have hl := Civ.len_eq hy h1 h2
        rcases Civ.month_cases h1 h2 with rfl | rfl | rfl | rfl | rfl | rfl | rfl | rfl | rfl | rfl | rfl | rfl
        all_goals
          simp at hl
          have Hl := Lib.hid hl
          clear hl
          go_enter Tryz.func82, Tryz.ntmps82
          go_wp2_with (go_at_call 83; refine (rDays_any _ _).mono ?_; rintro e w' ⟨rfl, rfl⟩)
          go_ret
          exact ⟨ret_i (by rw [Hl.out]; try exact H28.out), rfl⟩
      · go_enter Tryz.func82, Tryz.ntmps82
        go_wp2_with (go_at_call 83; refine (rDays_any _ _).mono ?_; rintro e w' ⟨rfl, rfl⟩)
        go_ret
        exact ⟨ret_i (by unfold Civ.len; rw [if_neg (by omega)]), rfl⟩
    · go_enter Tryz.func82, Tryz.ntmps82
      go_wp2_with (go_at_call 83; refine (rDays_any _ _).mono ?_; rintro e w' ⟨rfl, rfl⟩)
      go_ret
      exact ⟨ret_i (by unfold Civ.len; rw [if_neg (by omega)]), rfl⟩
theorem rAhead_any (y : Int) (w : World) (h1 : 1 ≤ y) (h2 : y ≤ 100000) : Calls Tryz.prog 116 #[.int .i64 y] w fun e w' => e = .returned (.int .i64 (Civ.ahead y)) ∧ w = w' := by
  go_enter Tryz.func116, Tryz.ntmps116
  go_wp2
  go_ret
  exact ⟨ret_i rfl, rfl⟩
set_option maxHeartbeats 400000 in
theorem rDay_any (y m d : Int) (w : World) : Calls Tryz.prog 81 #[.int .i64 y, .int .i64 m, .int .i64 d] w fun e w' => e = .returned (.tuple #[.int .i64 (Civ.day y m d), .int .i64 (Civ.dayE y m d)]) ∧ w = w' := by
  have b2 := Civ.len_bd y m
  by_cases h1 : 1 ≤ d
  · by_cases h2 : d ≤ Civ.len y m
    · obtain ⟨y1, y2, m1, m2⟩ := Civ.len_pos (y := y) (m := m) (by omega)
      have hdo := Civ.date_of y1 y2 m1 m2 h1 h2
      have ha0 : 0 ≤ Civ.ahead y ∧ Civ.ahead y ≤ 3652058 := by
        have := Civ.til_bd y m
        have e1 : Civ.ahead 1 = 0 := by decide
        have := Civ.ahead_mono (y := 1) (z := y) y1
        omega
      clear hdo
      go_enter Tryz.func81, Tryz.ntmps81
      go_wp2_with (first | (go_at_call 82; refine (rLen_any _ _ _).mono ?_; rintro e w' ⟨rfl, rfl⟩) | (go_at_call 116; refine (rAhead_any _ _ (by omega) (by omega)).mono ?_; rintro e w' ⟨rfl, rfl⟩))
      go_loop [8, 9] (fun n i => ∃ k : Int, 1 ≤ k ∧ k ≤ m ∧ i = .int .i64 k ∧ n = .int .i64 (Civ.ahead y + d - 1 + Civ.til y k)) (fun _ i => (m - intOf i).toNat)
      case atStart => exact ⟨1, by omega, by omega, rfl, by rw [Civ.til_first]; simp⟩
      case round =>
        obtain ⟨k, k1, k2, rfl, rfl⟩ := hrel
        have b3 := Civ.til_bd y k
        have b4 := Civ.len_bd y k
        by_cases hlt : k < m
        · have hs := Lib.hid (Civ.til_succ (y := y) (m := k) ((Civ.isYear_iff y).2 ⟨y1, y2⟩) (by omega) (by omega))
          go_wp2_with (first | (go_at_call 82; refine (rLen_any _ _ _).mono ?_; rintro e w' ⟨rfl, rfl⟩))
          go_round
          case rel => exact ⟨k + 1, by omega, by omega, rfl, by rw [hs.out]; go_num⟩
          case measure => simp [intOf]; omega
        · obtain rfl : k = m := by omega
          go_wp2
          go_ret2
          exact ⟨ret_ii (by unfold Civ.day; rw [if_neg (by omega)]; omega) (by unfold Civ.dayE; rw [if_neg (by omega)]), rfl⟩
    · go_enter Tryz.func81, Tryz.ntmps81
      go_wp2_with (first | (go_at_call 82; refine (rLen_any _ _ _).mono ?_; rintro e w' ⟨rfl, rfl⟩))
      go_ret2
      exact ⟨ret_ii (by unfold Civ.day; rw [if_pos (by omega)]) (by unfold Civ.dayE; rw [if_pos (by omega)]), rfl⟩
  · go_enter Tryz.func81, Tryz.ntmps81
    go_wp2
    go_ret2
    exact ⟨ret_ii (by unfold Civ.day; rw [if_pos (by omega)]) (by unfold Civ.dayE; rw [if_pos (by omega)]), rfl⟩
set_option maxHeartbeats 400000 in
theorem rDate_any (n : Int) (w : World) : Calls Tryz.prog 114 #[.int .i64 n] w fun e w' => e = .returned (.tuple #[.int .i64 (Civ.dateY n), .int .i64 (Civ.dateM n), .int .i64 (Civ.dateD n), .int .i64 (Civ.dateE n)]) ∧ w = w' := by
  by_cases h1 : 0 ≤ n
  · by_cases h2 : n ≤ 3652058
    · have hd := (Civ.isDay_iff n).2 ⟨h1, h2⟩
      have hs := Civ.split_spec h1 h2
      obtain ⟨y1, y2, m1, m2, d1, d2, de⟩ := Civ.date_spec h1 h2
      have hyr : Civ.ahead (Civ.dateY n) ≤ n ∧ n < Civ.ahead (Civ.dateY n + 1) := by
        have := Civ.date_of y1 y2 m1 m2 d1 d2
        rw [de] at this; exact this.2.2
      have ha0 : Civ.ahead (n / 366 + 1) ≤ n := by unfold Civ.ahead; omega
      have hle : n / 366 + 1 ≤ Civ.dateY n := by
        by_cases hh : Civ.dateY n < n / 366 + 1
        · have := Civ.ahead_mono (y := Civ.dateY n + 1) (z := n / 366 + 1) (by omega); omega
        · omega
      have hA : 0 ≤ Civ.ahead (Civ.dateY n) := by
        have e1 : Civ.ahead 1 = 0 := by decide
        have := Civ.ahead_mono (y := 1) (z := Civ.dateY n) y1
        omega
      have HM := Lib.hid (fun k (k1 : 1 ≤ k) (k2 : k < Civ.dateM n) => Civ.til_mono (y := Civ.dateY n) (m := k + 1) (k := Civ.dateM n) ((Civ.isYear_iff _).2 ⟨y1, y2⟩) (by omega) (by omega) (by omega))
      have hE : Civ.dateE n = 0 := by simp [Civ.dateE, hd]
      have HE := Lib.hid hE
      clear hs ha0 hE
      have Hde := Lib.hid de
      clear de hd
      generalize Civ.dateY n = Y at *
      generalize Civ.dateM n = M at *
      generalize Civ.dateD n = D at *
      go_enter Tryz.func114, Tryz.ntmps114
      go_wp2
      go_loop [6] (fun v => ∃ k : Int, n / 366 + 1 ≤ k ∧ k ≤ Y ∧ v = .int .i64 k) (fun v => (Y - intOf v).toNat)
      case atStart => exact ⟨_, by omega, by omega, rfl⟩
      case round =>
        obtain ⟨k, k1, k2, rfl⟩ := hrel
        by_cases hlt : k < Y
        · have hm : Civ.ahead (k + 1) ≤ n := by
            have := Civ.ahead_mono (y := k + 1) (z := Y) (by omega); omega
          go_wp2_with (first | (go_at_call 116; refine (rAhead_any _ _ (by omega) (by omega)).mono ?_; rintro e w' ⟨rfl, rfl⟩))
          go_round
          case rel => exact ⟨k + 1, by omega, by omega, rfl⟩
          case measure => simp [intOf]; omega
        · obtain rfl : k = Y := by omega
          have hm : n < Civ.ahead (k + 1) := hyr.2
          obtain ⟨hy1, hy2⟩ := hyr
          go_wp2_with (first | (go_at_call 116; refine (rAhead_any _ _ (by omega) (by omega)).mono ?_; rintro e w' ⟨rfl, rfl⟩))
          go_loop [7, 8] (fun m d => ∃ j : Int, 1 ≤ j ∧ j ≤ M ∧ m = .int .i64 j ∧ d = .int .i64 (n - Civ.ahead k + 1 - Civ.til k j)) (fun m _ => (M - intOf m).toNat)
          case atStart => exact ⟨1, by omega, by omega, rfl, by rw [Civ.til_first]; simp⟩
          case round =>
            obtain ⟨j, j1, j2, rfl, rfl⟩ := hrel
            have b3 := Civ.til_bd k j
            have b4 := Civ.len_bd k j
            by_cases hlt : j < M
            · have hs := Civ.til_succ (y := k) (m := j) ((Civ.isYear_iff k).2 ⟨y1, y2⟩) (by omega) (by omega)
              have hm := HM.out j j1 hlt
              have hde := Hde.out
              have hgo : Civ.len k j < n - Civ.ahead k + 1 - Civ.til k j := by omega
              have Hs := Lib.hid hs
              clear hs hm hde
              go_wp2_with (first | (go_at_call 82; refine (rLen_any _ _ _).mono ?_; rintro e w' ⟨rfl, rfl⟩))
              go_round
              case rel => exact ⟨j + 1, by omega, by omega, rfl, by rw [Hs.out]; go_num⟩
              case measure => simp [intOf]; omega
            · obtain rfl : j = M := by omega
              have hde := Hde.out
              have hno : n - Civ.ahead k + 1 - Civ.til k j ≤ Civ.len k j := by omega
              clear hde
              go_wp2_with (first | (go_at_call 82; refine (rLen_any _ _ _).mono ?_; rintro e w' ⟨rfl, rfl⟩))
              refine bodyPost_ret (results_tmp4 rfl _ _ _) rfl ?_
              exact ⟨ret_4 rfl rfl (by have := Hde.out; omega) HE.out.symm, rfl⟩
    · go_enter Tryz.func114, Tryz.ntmps114
      go_wp2
      refine bodyPost_ret (results_tmp4 rfl _ _ _) rfl ?_
      have hd : Civ.isDay n = false := by simp [Civ.isDay]; omega
      exact ⟨ret_4 (by simp [Civ.dateY, hd]) (by simp [Civ.dateM, hd]) (by simp [Civ.dateD, hd]) (by simp [Civ.dateE, hd]), rfl⟩
  · go_enter Tryz.func114, Tryz.ntmps114
    go_wp2
    refine bodyPost_ret (results_tmp4 rfl _ _ _) rfl ?_
    have hd : Civ.isDay n = false := by simp [Civ.isDay]; omega
    exact ⟨ret_4 (by simp [Civ.dateY, hd]) (by simp [Civ.dateM, hd]) (by simp [Civ.dateD, hd]) (by simp [Civ.dateE, hd]), rfl⟩
theorem rWeekday_any (n : Int) (w : World) : Calls Tryz.prog 182 #[.int .i64 n] w fun e w' => e = .returned (.int .i64 (Civ.weekday n)) ∧ w = w' := by
  by_cases h1 : 0 ≤ n <;> by_cases h2 : n ≤ 3652058
  all_goals
    go_enter Tryz.func182, Tryz.ntmps182
    go_wp2
    go_ret
    exact ⟨ret_i (by simp [Civ.weekday, Civ.isDay]; omega), rfl⟩
set_option maxHeartbeats 400000 in
theorem rPlace_any (n : Int) (w : World) : Calls Tryz.prog 163 #[.int .i64 n] w fun e w' => e = .returned (.int .i64 (Civ.place n)) ∧ w = w' := by
  by_cases h1 : 0 ≤ n
  · by_cases h2 : n ≤ 3652058
    · have hd := (Civ.isDay_iff n).2 ⟨h1, h2⟩
      obtain ⟨s1, s2, s3, s4, s5⟩ := Civ.split_spec h1 h2
      have hY : Civ.dateY n = Civ.splitY n := by simp [Civ.dateY, hd]
      have hP : Civ.place n = n - Civ.ahead (Civ.dateY n) + 1 := by simp only [Civ.place, hd, if_true, hY]; omega
      have hA : 0 ≤ Civ.ahead (Civ.dateY n) ∧ Civ.ahead (Civ.dateY n) ≤ n := by
        have e1 : Civ.ahead 1 = 0 := by decide
        have := Civ.ahead_mono (y := 1) (z := Civ.splitY n) s1
        rw [hY]; omega
      have HP := Lib.hid hP
      have HB : 1 ≤ Civ.dateY n ∧ Civ.dateY n ≤ 9999 := by rw [hY]; exact ⟨s1, s2⟩
      clear s1 s2 s3 s4 s5 hY hP hd
      go_enter Tryz.func163, Tryz.ntmps163
      go_wp2_with (first | (go_at_call 114; refine (rDate_any _ _).mono ?_; rintro e w' ⟨rfl, rfl⟩) | (go_at_call 116; refine (rAhead_any _ _ (by omega) (by omega)).mono ?_; rintro e w' ⟨rfl, rfl⟩))
      go_ret
      exact ⟨ret_i HP.out.symm, rfl⟩
    · go_enter Tryz.func163, Tryz.ntmps163
      go_wp2
      go_ret
      exact ⟨ret_i (by simp [Civ.place, Civ.isDay]; omega), rfl⟩
  · go_enter Tryz.func163, Tryz.ntmps163
    go_wp2
    go_ret
    exact ⟨ret_i (by simp [Civ.place, Civ.isDay]; omega), rfl⟩
end Go.Proofs.YtkbohijlhhpfbaaGreatDoor.Cw

/- The walks through errandref10. -/
namespace Go.Proofs.YtkbohijlhhpfbaaGreatDoor.Cw
open Go.RowKit
theorem isStart_no {x : Int} (h : ¬ (0 ≤ x ∧ x < 7)) : Wk.isStart x = false := by
  cases hh : Wk.isStart x
  · rfl
  · exact absurd ((Wk.isStart_iff x).1 hh) h
theorem rIs_any (x : Int) (w : World) : Calls Tryz.prog 158 #[.int .i64 x] w fun e w' => e = .returned (.bool (Wk.isStart x)) ∧ w = w' := by
  by_cases h1 : 0 ≤ x
  · by_cases h2 : x ≤ 6
    · go_enter Tryz.func158, Tryz.ntmps158
      go_wp2
      go_ret
      exact ⟨ret_b ((Wk.isStart_iff x).2 ⟨by omega, by omega⟩).symm, rfl⟩
    · go_enter Tryz.func158, Tryz.ntmps158
      go_wp2
      go_ret
      exact ⟨ret_b (isStart_no (by omega)).symm, rfl⟩
  · go_enter Tryz.func158, Tryz.ntmps158
    go_wp2
    go_ret
    exact ⟨ret_b (isStart_no (by omega)).symm, rfl⟩
theorem rem7 (k : Int) : (wrap64 (k.tmod 7 + 7)).tmod 7 = k % 7 := by
  have h : k.tmod 7 = if 0 ≤ k then k % 7 else -((-k) % 7) := by
    split
    · next h => exact Int.tmod_eq_emod_of_nonneg h
    · next h =>
      have e : k = -(-k) := by omega
      conv => lhs; rw [e]
      rw [Int.neg_tmod, Int.tmod_eq_emod_of_nonneg (by omega)]
  have hb : -6 ≤ k.tmod 7 ∧ k.tmod 7 ≤ 6 := by rw [h]; split <;> omega
  rw [IntWalk.wrap64_in _ ⟨by omega, by omega⟩, Int.tmod_eq_emod_of_nonneg (by omega), h]
  split <;> omega
set_option maxHeartbeats 400000 in
theorem rbegin_any (n x : Int) (w : World) (h1 : -1000 ≤ n) (h2 : n ≤ 10000000) (h3 : 0 ≤ x) (h4 : x < 7) : Calls Tryz.prog 159 #[.int .i64 n, .int .i64 x] w fun e w' => e = .returned (.int .i64 (n - Wk.back n x)) ∧ w = w' := by
  have hb := Wk.back_bd n x
  go_enter Tryz.func159, Tryz.ntmps159
  go_wp2
  go_loop [0] (fun v => ∃ k : Int, n - Wk.back n x ≤ k ∧ k ≤ n ∧ v = .int .i64 k) (fun v => (intOf v - (n - Wk.back n x)).toNat)
  case atStart => exact ⟨n, by omega, by omega, rfl⟩
  case round =>
    obtain ⟨k, k1, k2, rfl⟩ := hrel
    by_cases hlt : n - Wk.back n x < k
    · have hr := rem7 k
      have hne : (k % 7 != x) = true := by rw [bne_iff_ne]; unfold Wk.back at k1 hlt; omega
      go_wp2
      go_round
      case rel => exact ⟨k - 1, by omega, by omega, rfl⟩
      case measure => simp [intOf]; omega
    · have hke : k = n - Wk.back n x := by omega
      have hr := rem7 k
      have hne : (k % 7 != x) = false := by rw [bne_eq_false_iff_eq, hke]; unfold Wk.back; omega
      have Hk := Lib.hid hke
      clear hke hlt
      go_wp2
      go_ret
      exact ⟨ret_i Hk.out, rfl⟩
set_option maxHeartbeats 400000 in
theorem rBegin_any (n x : Int) (w : World) : Calls Tryz.prog 115 #[.int .i64 n, .int .i64 x] w fun e w' => e = .returned (.int .i64 (Wk.begin n x)) ∧ w = w' := by
  cases hx : Wk.isStart x
  · go_enter Tryz.func115, Tryz.ntmps115
    go_wp2_with (first | (go_at_call 158; refine (rIs_any _ _).mono ?_; rintro e w' ⟨rfl, rfl⟩))
    go_ret
    exact ⟨ret_i (by simp [Wk.begin, hx]), rfl⟩
  · obtain ⟨x1, x2⟩ := (Wk.isStart_iff x).1 hx
    by_cases h1 : 0 ≤ n
    · by_cases h2 : n ≤ 3652058
      · go_enter Tryz.func115, Tryz.ntmps115
        go_wp2_with (first | (go_at_call 158; refine (rIs_any _ _).mono ?_; rintro e w' ⟨rfl, rfl⟩) | (go_at_call 159; refine (rbegin_any _ _ _ (by omega) (by omega) (by omega) (by omega)).mono ?_; rintro e w' ⟨rfl, rfl⟩))
        go_ret
        exact ⟨ret_i (by unfold Wk.begin; rw [if_pos ⟨hx, h1, h2⟩]), rfl⟩
      · go_enter Tryz.func115, Tryz.ntmps115
        go_wp2_with (first | (go_at_call 158; refine (rIs_any _ _).mono ?_; rintro e w' ⟨rfl, rfl⟩))
        go_ret
        exact ⟨ret_i (by unfold Wk.begin; rw [if_neg]; intro hh; omega), rfl⟩
    · go_enter Tryz.func115, Tryz.ntmps115
      go_wp2_with (first | (go_at_call 158; refine (rIs_any _ _).mono ?_; rintro e w' ⟨rfl, rfl⟩))
      go_ret
      exact ⟨ret_i (by unfold Wk.begin; rw [if_neg]; intro hh; omega), rfl⟩
set_option maxHeartbeats 400000 in
theorem january_any (y : Int) (w : World) (h1 : 0 ≤ y) (h2 : y ≤ 10001) : Calls Tryz.prog 185 #[.int .i64 y] w fun e w' => e = .returned (.int .i64 (Civ.ahead y + 3)) ∧ w = w' := by
  by_cases h0 : y = 0
  · have h0' : (y == 0) = true := by rw [beq_iff_eq]; exact h0
    have H0 := Lib.hid h0
    clear h0
    go_enter Tryz.func185, Tryz.ntmps185
    go_wp2
    go_ret
    exact ⟨ret_i (by rw [H0.out]; decide), rfl⟩
  · have h0' : (y == 0) = false := by rw [beq_eq_false_iff_ne]; exact h0
    by_cases h3 : y ≤ 9999
    · have hd := (Civ.day_of (y := y) (m := 1) (d := 4) (by omega) (by have := Civ.len_ge (y := y) (m := 1) (by omega) h3 (by omega) (by omega); omega)).1
      rw [Civ.til_first] at hd
      have Hd := Lib.hid hd
      clear hd
      go_enter Tryz.func185, Tryz.ntmps185
      go_wp2_with (first | (go_at_call 81; refine (rDay_any _ _ _ _).mono ?_; rintro e w' ⟨rfl, rfl⟩))
      go_ret
      exact ⟨ret_i (by rw [Hd.out]; omega), rfl⟩
    · have e1 : Civ.day 9999 1 4 = 3651697 := by decide
      have hy : y = 10000 ∨ y = 10001 := by omega
      rcases hy with rfl | rfl
      all_goals
        go_enter Tryz.func185, Tryz.ntmps185
        go_wp2_with (first | (go_at_call 81; refine (rDay_any _ _ _ _).mono ?_; rintro e w' ⟨rfl, rfl⟩))
        go_ret
        exact ⟨ret_i (by decide), rfl⟩
set_option maxHeartbeats 400000 in
theorem rFirst_any (y x : Int) (w : World) : Calls Tryz.prog 179 #[.int .i64 y, .int .i64 x] w fun e w' => e = .returned (.int .i64 (Wk.first y x)) ∧ w = w' := by
  cases hx : Wk.isStart x
  · go_enter Tryz.func179, Tryz.ntmps179
    go_wp2_with (first | (go_at_call 158; refine (rIs_any _ _).mono ?_; rintro e w' ⟨rfl, rfl⟩))
    go_ret
    exact ⟨ret_i (by simp [Wk.first, hx]), rfl⟩
  · obtain ⟨x1, x2⟩ := (Wk.isStart_iff x).1 hx
    by_cases h1 : 0 ≤ y
    · by_cases h2 : y ≤ 10001
      · have ha := Wk.ahead_rng h1 (by omega : y ≤ 10002)
        go_enter Tryz.func179, Tryz.ntmps179
        go_wp2_with (first | (go_at_call 158; refine (rIs_any _ _).mono ?_; rintro e w' ⟨rfl, rfl⟩) | (go_at_call 185; refine (january_any _ _ (by omega) (by omega)).mono ?_; rintro e w' ⟨rfl, rfl⟩) | (go_at_call 159; refine (rbegin_any _ _ _ (by omega) (by omega) (by omega) (by omega)).mono ?_; rintro e w' ⟨rfl, rfl⟩))
        go_ret
        exact ⟨ret_i (by unfold Wk.first; rw [if_pos ⟨hx, h1, h2⟩]; rfl), rfl⟩
      · go_enter Tryz.func179, Tryz.ntmps179
        go_wp2_with (first | (go_at_call 158; refine (rIs_any _ _).mono ?_; rintro e w' ⟨rfl, rfl⟩))
        go_ret
        exact ⟨ret_i (by unfold Wk.first; rw [if_neg]; intro hh; omega), rfl⟩
    · go_enter Tryz.func179, Tryz.ntmps179
      go_wp2_with (first | (go_at_call 158; refine (rIs_any _ _).mono ?_; rintro e w' ⟨rfl, rfl⟩))
      go_ret
      exact ⟨ret_i (by unfold Wk.first; rw [if_neg]; intro hh; omega), rfl⟩
set_option maxHeartbeats 400000 in
theorem rWeeks_any (y x : Int) (w : World) : Calls Tryz.prog 180 #[.int .i64 y, .int .i64 x] w fun e w' => e = .returned (.int .i64 (Wk.weeks y x)) ∧ w = w' := by
  cases hx : Wk.isStart x
  · go_enter Tryz.func180, Tryz.ntmps180
    go_wp2_with (first | (go_at_call 158; refine (rIs_any _ _).mono ?_; rintro e w' ⟨rfl, rfl⟩))
    go_ret
    exact ⟨ret_i (by simp [Wk.weeks, hx]), rfl⟩
  · by_cases h1 : 0 ≤ y
    · by_cases h2 : y ≤ 10000
      · have f1 := first_bd y x
        have f2 := first_bd (y + 1) x
        have e1 : Wk.first y x = Wk.fst y x := by unfold Wk.first; rw [if_pos ⟨hx, by omega, by omega⟩]
        have e2 : Wk.first (y + 1) x = Wk.fst (y + 1) x := by unfold Wk.first; rw [if_pos ⟨hx, by omega, by omega⟩]
        have hm := Wk.fst_mono (w := x) (y := y) (z := y + 1) (by omega)
        rw [e1] at f1
        rw [e2] at f2
        go_enter Tryz.func180, Tryz.ntmps180
        go_wp2_with (first | (go_at_call 158; refine (rIs_any _ _).mono ?_; rintro e w' ⟨rfl, rfl⟩) | (go_at_call 179; refine (rFirst_any _ _ _).mono ?_; rintro e w' ⟨rfl, rfl⟩))
        go_ret
        exact ⟨ret_i (by unfold Wk.weeks; rw [if_pos ⟨hx, h1, h2⟩]), rfl⟩
      · go_enter Tryz.func180, Tryz.ntmps180
        go_wp2_with (first | (go_at_call 158; refine (rIs_any _ _).mono ?_; rintro e w' ⟨rfl, rfl⟩))
        go_ret
        exact ⟨ret_i (by unfold Wk.weeks; rw [if_neg]; intro hh; omega), rfl⟩
    · go_enter Tryz.func180, Tryz.ntmps180
      go_wp2_with (first | (go_at_call 158; refine (rIs_any _ _).mono ?_; rintro e w' ⟨rfl, rfl⟩))
      go_ret
      exact ⟨ret_i (by unfold Wk.weeks; rw [if_neg]; intro hh; omega), rfl⟩
set_option maxHeartbeats 1000000 in
theorem rNumber_any (n x : Int) (w : World) : Calls Tryz.prog 160 #[.int .i64 n, .int .i64 x] w fun e w' => e = .returned (.tuple #[.int .i64 (Wk.numY n x), .int .i64 (Wk.numN n x)]) ∧ w = w' := by
  cases hx : Wk.isStart x
  · go_enter Tryz.func160, Tryz.ntmps160
    go_wp2_with (first | (go_at_call 158; refine (rIs_any _ _).mono ?_; rintro e w' ⟨rfl, rfl⟩))
    go_ret2
    exact ⟨ret_ii (by simp [Wk.numY, hx]) (by simp [Wk.numN, hx]), rfl⟩
  · by_cases h1 : 0 ≤ n
    · by_cases h2 : n ≤ 3652058
      · obtain ⟨y1, y2, _⟩ := Civ.date_spec h1 h2
        obtain ⟨s1, s2, s3, s4, s5, s6⟩ := Wk.year_spec x h1 h2
        have e0 : Wk.first (Civ.dateY n) x = Wk.fst (Civ.dateY n) x := by unfold Wk.first; rw [if_pos ⟨hx, by omega, by omega⟩]
        have e1 : Wk.first (Civ.dateY n + 1) x = Wk.fst (Civ.dateY n + 1) x := by unfold Wk.first; rw [if_pos ⟨hx, by omega, by omega⟩]
        have e2 : Wk.first (Civ.dateY n - 1) x = Wk.fst (Civ.dateY n - 1) x := by unfold Wk.first; rw [if_pos ⟨hx, by omega, by omega⟩]
        have hYN : Wk.numY n x = Wk.year n x := by unfold Wk.numY; rw [if_pos ⟨hx, h1, h2⟩]
        have hNN : Wk.numN n x = (n - Wk.fst (Wk.year n x) x) / 7 + 1 := by unfold Wk.numN; rw [if_pos ⟨hx, h1, h2⟩]
        have HYN := Lib.hid hYN
        have HNN := Lib.hid hNN
        clear hYN hNN
        by_cases c1 : n < Wk.fst (Civ.dateY n) x
        · have hy : Wk.year n x = Civ.dateY n - 1 := by unfold Wk.year; rw [if_pos c1]
          have Hy := Lib.hid hy
          rw [hy] at s1
          have fb := Wk.fst_bd (Civ.dateY n - 1) x
          have ha := Wk.ahead_rng (y := Civ.dateY n - 1) (by omega) (by omega)
          clear hy s2 s3 s4 s5 s6
          go_enter Tryz.func160, Tryz.ntmps160
          go_wp2_with (first | (go_at_call 158; refine (rIs_any _ _).mono ?_; rintro e w' ⟨rfl, rfl⟩) | (go_at_call 114; refine (rDate_any _ _).mono ?_; rintro e w' ⟨rfl, rfl⟩) | (go_at_call 179; refine (rFirst_any _ _ _).mono ?_; rintro e w' ⟨rfl, rfl⟩))
          go_ret2
          exact ⟨ret_ii (by rw [HYN.out, Hy.out]) (by rw [HNN.out, Hy.out]), rfl⟩
        · by_cases c2 : Wk.fst (Civ.dateY n + 1) x ≤ n
          · have hy : Wk.year n x = Civ.dateY n + 1 := by unfold Wk.year; rw [if_neg c1, if_pos c2]
            have Hy := Lib.hid hy
            rw [hy] at s1
            have fb := Wk.fst_bd (Civ.dateY n + 1) x
            have ha := Wk.ahead_rng (y := Civ.dateY n + 1) (by omega) (by omega)
            clear hy s2 s3 s4 s5 s6
            go_enter Tryz.func160, Tryz.ntmps160
            go_wp2_with (first | (go_at_call 158; refine (rIs_any _ _).mono ?_; rintro e w' ⟨rfl, rfl⟩) | (go_at_call 114; refine (rDate_any _ _).mono ?_; rintro e w' ⟨rfl, rfl⟩) | (go_at_call 179; refine (rFirst_any _ _ _).mono ?_; rintro e w' ⟨rfl, rfl⟩))
            go_ret2
            exact ⟨ret_ii (by rw [HYN.out, Hy.out]) (by rw [HNN.out, Hy.out]), rfl⟩
          · have hy : Wk.year n x = Civ.dateY n := by unfold Wk.year; rw [if_neg c1, if_neg c2]
            have Hy := Lib.hid hy
            rw [hy] at s1
            have fb := Wk.fst_bd (Civ.dateY n) x
            have ha := Wk.ahead_rng (y := Civ.dateY n) (by omega) (by omega)
            clear hy s2 s3 s4 s5 s6
            go_enter Tryz.func160, Tryz.ntmps160
            go_wp2_with (first | (go_at_call 158; refine (rIs_any _ _).mono ?_; rintro e w' ⟨rfl, rfl⟩) | (go_at_call 114; refine (rDate_any _ _).mono ?_; rintro e w' ⟨rfl, rfl⟩) | (go_at_call 179; refine (rFirst_any _ _ _).mono ?_; rintro e w' ⟨rfl, rfl⟩))
            go_ret2
            exact ⟨ret_ii (by rw [HYN.out, Hy.out]) (by rw [HNN.out, Hy.out]), rfl⟩
      · go_enter Tryz.func160, Tryz.ntmps160
        go_wp2_with (first | (go_at_call 158; refine (rIs_any _ _).mono ?_; rintro e w' ⟨rfl, rfl⟩))
        go_ret2
        exact ⟨ret_ii (by unfold Wk.numY; rw [if_neg]; intro hh; omega) (by unfold Wk.numN; rw [if_neg]; intro hh; omega), rfl⟩
    · go_enter Tryz.func160, Tryz.ntmps160
      go_wp2_with (first | (go_at_call 158; refine (rIs_any _ _).mono ?_; rintro e w' ⟨rfl, rfl⟩))
      go_ret2
      exact ⟨ret_ii (by unfold Wk.numY; rw [if_neg]; intro hh; omega) (by unfold Wk.numN; rw [if_neg]; intro hh; omega), rfl⟩
set_option maxHeartbeats 400000 in
theorem rBack_any (n x : Int) (w : World) : Calls Tryz.prog 161 #[.int .i64 n, .int .i64 x] w fun e w' => e = .returned (.int .i64 (Wk.backN n x)) ∧ w = w' := by
  have nb := number_bd n x
  have wb := weeks_bd' (Wk.numY n x) x
  by_cases h0 : Wk.numN n x = 0
  · have hb : (Wk.numN n x == 0) = true := by rw [beq_iff_eq]; exact h0
    have H0 := Lib.hid h0
    clear h0
    go_enter Tryz.func161, Tryz.ntmps161
    go_wp2_with (first | (go_at_call 160; refine (rNumber_any _ _ _).mono ?_; rintro e w' ⟨rfl, rfl⟩))
    go_ret
    exact ⟨ret_i (by unfold Wk.backN; rw [if_pos H0.out]), rfl⟩
  · have hb : (Wk.numN n x == 0) = false := by rw [beq_eq_false_iff_ne]; exact h0
    go_enter Tryz.func161, Tryz.ntmps161
    go_wp2_with (first | (go_at_call 160; refine (rNumber_any _ _ _).mono ?_; rintro e w' ⟨rfl, rfl⟩) | (go_at_call 180; refine (rWeeks_any _ _ _).mono ?_; rintro e w' ⟨rfl, rfl⟩))
    go_ret
    exact ⟨ret_i (by unfold Wk.backN; rw [if_neg (by omega)]; omega), rfl⟩
end Go.Proofs.YtkbohijlhhpfbaaGreatDoor.Cw

