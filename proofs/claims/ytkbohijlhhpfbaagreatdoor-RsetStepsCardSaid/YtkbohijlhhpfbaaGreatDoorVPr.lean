import Derived.Test.YtkbohijlhhpfbaaGreatDoorVCwb
import Derived.Test.YtkbohijlhhpfbaaGreatDoorVYa
/- The walks through errandref09: they come to the same plain functions. -/
namespace Go.Proofs.YtkbohijlhhpfbaaGreatDoor.Cw
open Go.RowKit
set_option maxHeartbeats 400000 in
theorem rLeap_any (y : Int) (w : World) : Calls Tryz.prog 117 #[.int .i64 y] w fun e w' => e = .returned (.bool (Civ.leap y)) ∧ w = w' := by
 by_cases h1 : 1 ≤ y
 ·by_cases h2 : y ≤ 9999
  ·have hl : Civ.leap y = (decide (y % 4 = 0) && (!decide (y % 100 = 0) || decide (y % 400 = 0))) := by simp [Civ.leap, Civ.isYear, h1, h2]
   have Hl := Lib.hid hl
   clear hl
   go_enter Tryz.func117, Tryz.ntmps117
   go_wp2
   all_goals
    go_ret
    exact ⟨ret_b (by rw [Hl.out]; simp [*] <;> first | rfl | omega), rfl⟩
  ·go_enter Tryz.func117, Tryz.ntmps117
   go_wp2
   go_ret
   exact ⟨ret_b (by simp [Civ.leap, Civ.isYear]; omega), rfl⟩
 ·go_enter Tryz.func117, Tryz.ntmps117
  go_wp2
  go_ret
  exact ⟨ret_b (by simp [Civ.leap, Civ.isYear]; omega), rfl⟩
set_option maxHeartbeats 400000 in
theorem rDays_any (y : Int) (w : World) : Calls Tryz.prog 83 #[.int .i64 y] w fun e w' => e = .returned (.int .i64 (Civ.days y)) ∧ w = w' := by
 by_cases h1 : 1 ≤ y
 ·by_cases h2 : y ≤ 9999
  ·cases hl : Civ.leap y
   all_goals
    go_enter Tryz.func83, Tryz.ntmps83
    go_wp2_with (go_at_call 117; refine (rLeap_any _ _).mono ?_; rintro e w' ⟨rfl, rfl⟩)
    go_ret
    exact ⟨ret_i (by simp [Civ.days, Civ.isYear, h1, h2, hl]), rfl⟩
  ·go_enter Tryz.func83, Tryz.ntmps83
   go_wp2
   go_ret
   exact ⟨ret_i (by simp [Civ.days, Civ.isYear]; omega), rfl⟩
 ·go_enter Tryz.func83, Tryz.ntmps83
  go_wp2
  go_ret
  exact ⟨ret_i (by simp [Civ.days, Civ.isYear]; omega), rfl⟩
theorem days_z (y : Int) : Civ.days y = 0 ↔ Civ.isYear y = false := by
 unfold Civ.days; cases h : Civ.isYear y <;> simp
 split <;> omega
theorem days_bd (y : Int) : 0 ≤ Civ.days y ∧ Civ.days y ≤ 366 := by unfold Civ.days; repeat' split <;> omega
set_option maxHeartbeats 400000 in
theorem rLen_any (y m : Int) (w : World) : Calls Tryz.prog 82 #[.int .i64 y, .int .i64 m] w fun e w' => e = .returned (.int .i64 (Civ.len y m)) ∧ w = w' := by
 have hb := days_bd y
 have hz := days_z y
 cases hy : Civ.isYear y
 ·have h0 : (Civ.days y == 0) = true := by rw [hz.2 hy]; rfl
  clear hz hb
  go_enter Tryz.func82, Tryz.ntmps82
  go_wp2_with (go_at_call 83; refine (rDays_any _ _).mono ?_; rintro e w' ⟨rfl, rfl⟩)
  go_ret
  exact ⟨ret_i (by simp [Civ.len, hy]), rfl⟩
 ·have h0 : (Civ.days y == 0) = false := by
   rw [beq_eq_false_iff_ne]; intro h; rw [hz.1 h] at hy; cases hy
  have h28 : Civ.days y - 337 = if Civ.leap y = true then 29 else 28 := by unfold Civ.days; simp only [hy, if_true]; split <;> omega
  have H28 := Lib.hid h28
  clear hz h28
  by_cases h1 : 1 ≤ m
  ·by_cases h2 : m ≤ 12
   ·have hl := Civ.len_eq hy h1 h2
    rcases Civ.month_cases h1 h2 with rfl | rfl | rfl | rfl | rfl | rfl | rfl | rfl | rfl | rfl | rfl | rfl
    all_goals
     simp at hl
     have Hl := Lib.hid hl
     clear hl
     go_enter Tryz.func82, Tryz.ntmps82
     go_wp2_with (go_at_call 83; refine (rDays_any _ _).mono ?_; rintro e w' ⟨rfl, rfl⟩)
     go_ret
     exact ⟨ret_i (by rw [Hl.out]; try exact H28.out), rfl⟩
   ·go_enter Tryz.func82, Tryz.ntmps82
    go_wp2_with (go_at_call 83; refine (rDays_any _ _).mono ?_; rintro e w' ⟨rfl, rfl⟩)
    go_ret
    exact ⟨ret_i (by unfold Civ.len; rw [if_neg (by omega)]), rfl⟩
  ·go_enter Tryz.func82, Tryz.ntmps82
   go_wp2_with (go_at_call 83; refine (rDays_any _ _).mono ?_; rintro e w' ⟨rfl, rfl⟩)
   go_ret
   exact ⟨ret_i (by unfold Civ.len; rw [if_neg (by omega)]), rfl⟩
theorem rAhead_any (y : Int) (w : World) (h1 : 1 ≤ y) (h2 : y ≤ 100000) : Calls Tryz.prog 116 #[.int .i64 y] w fun e w' => e = .returned (.int .i64 (Civ.ahead y)) ∧ w = w' := by
 go_enter Tryz.func116, Tryz.ntmps116
 go_wp2
 go_ret
 exact ⟨ret_i rfl, rfl⟩
set_option maxHeartbeats 400000 in
theorem rDay_any (y m d : Int) (w : World) : Calls Tryz.prog 81 #[.int .i64 y, .int .i64 m, .int .i64 d] w fun e w' => e = .returned (.tuple #[.int .i64 (Civ.day y m d), .int .i64 (Civ.dayE y m d)]) ∧ w = w' := by
 have b2 := Civ.len_bd y m
 by_cases h1 : 1 ≤ d
 ·by_cases h2 : d ≤ Civ.len y m
  ·obtain ⟨y1, y2, m1, m2⟩ := Civ.len_pos (y := y) (m := m) (by omega)
   have hdo := Civ.date_of y1 y2 m1 m2 h1 h2
   have ha0 : 0 ≤ Civ.ahead y ∧ Civ.ahead y ≤ 3652058 := by
    have := Civ.til_bd y m
    have e1 : Civ.ahead 1 = 0 := by decide
    have := Civ.ahead_mono (y := 1) (z := y) y1
    omega
   clear hdo
   go_enter Tryz.func81, Tryz.ntmps81
   go_wp2_with (first | (go_at_call 82; refine (rLen_any _ _ _).mono ?_; rintro e w' ⟨rfl, rfl⟩) | (go_at_call 116; refine (rAhead_any _ _ (by omega) (by omega)).mono ?_; rintro e w' ⟨rfl, rfl⟩))
   go_loop [8, 9] (fun n i => ∃ k : Int, 1 ≤ k ∧ k ≤ m ∧ i = .int .i64 k ∧ n = .int .i64 (Civ.ahead y + d - 1 + Civ.til y k)) (fun _ i => (m - intOf i).toNat)
   case atStart => exact ⟨1, by omega, by omega, rfl, by rw [Civ.til_first]; simp⟩
   case round =>
    obtain ⟨k, k1, k2, rfl, rfl⟩ := hrel
    have b3 := Civ.til_bd y k
    have b4 := Civ.len_bd y k
    by_cases hlt : k < m
    ·have hs := Lib.hid (Civ.til_succ (y := y) (m := k) ((Civ.isYear_iff y).2 ⟨y1, y2⟩) (by omega) (by omega))
     go_wp2_with (first | (go_at_call 82; refine (rLen_any _ _ _).mono ?_; rintro e w' ⟨rfl, rfl⟩))
     go_round
     case rel => exact ⟨k + 1, by omega, by omega, rfl, by rw [hs.out]; go_num⟩
     case measure => simp [intOf]; omega
    ·obtain rfl : k = m := by omega
     go_wp2
     go_ret2
     exact ⟨ret_ii (by unfold Civ.day; rw [if_neg (by omega)]; omega) (by unfold Civ.dayE; rw [if_neg (by omega)]), rfl⟩
  ·go_enter Tryz.func81, Tryz.ntmps81
   go_wp2_with (first | (go_at_call 82; refine (rLen_any _ _ _).mono ?_; rintro e w' ⟨rfl, rfl⟩))
   go_ret2
   exact ⟨ret_ii (by unfold Civ.day; rw [if_pos (by omega)]) (by unfold Civ.dayE; rw [if_pos (by omega)]), rfl⟩
 ·go_enter Tryz.func81, Tryz.ntmps81
  go_wp2
  go_ret2
  exact ⟨ret_ii (by unfold Civ.day; rw [if_pos (by omega)]) (by unfold Civ.dayE; rw [if_pos (by omega)]), rfl⟩
set_option maxHeartbeats 400000 in
theorem rDate_any (n : Int) (w : World) : Calls Tryz.prog 114 #[.int .i64 n] w fun e w' => e = .returned (.tuple #[.int .i64 (Civ.dateY n), .int .i64 (Civ.dateM n), .int .i64 (Civ.dateD n), .int .i64 (Civ.dateE n)]) ∧ w = w' := by
 by_cases h1 : 0 ≤ n
 ·by_cases h2 : n ≤ 3652058
  ·have hd := (Civ.isDay_iff n).2 ⟨h1, h2⟩
   have hs := Civ.split_spec h1 h2
   obtain ⟨y1, y2, m1, m2, d1, d2, de⟩ := Civ.date_spec h1 h2
   have hyr : Civ.ahead (Civ.dateY n) ≤ n ∧ n < Civ.ahead (Civ.dateY n + 1) := by
    have := Civ.date_of y1 y2 m1 m2 d1 d2
    rw [de] at this; exact this.2.2
   have ha0 : Civ.ahead (n / 366 + 1) ≤ n := by unfold Civ.ahead; omega
   have hle : n / 366 + 1 ≤ Civ.dateY n := by
    by_cases hh : Civ.dateY n < n / 366 + 1
    ·have := Civ.ahead_mono (y := Civ.dateY n + 1) (z := n / 366 + 1) (by omega); omega
    ·omega
   have hA : 0 ≤ Civ.ahead (Civ.dateY n) := by
    have e1 : Civ.ahead 1 = 0 := by decide
    have := Civ.ahead_mono (y := 1) (z := Civ.dateY n) y1
    omega
   have HM := Lib.hid (fun k (k1 : 1 ≤ k) (k2 : k < Civ.dateM n) => Civ.til_mono (y := Civ.dateY n) (m := k + 1) (k := Civ.dateM n) ((Civ.isYear_iff _).2 ⟨y1, y2⟩) (by omega) (by omega) (by omega))
   have hE : Civ.dateE n = 0 := by simp [Civ.dateE, hd]
   have HE := Lib.hid hE
   clear hs ha0 hE
   have Hde := Lib.hid de
   clear de hd
   generalize Civ.dateY n = Y at *
   generalize Civ.dateM n = M at *
   generalize Civ.dateD n = D at *
   go_enter Tryz.func114, Tryz.ntmps114
   go_wp2
   go_loop [6] (fun v => ∃ k : Int, n / 366 + 1 ≤ k ∧ k ≤ Y ∧ v = .int .i64 k) (fun v => (Y - intOf v).toNat)
   case atStart => exact ⟨_, by omega, by omega, rfl⟩
   case round =>
    obtain ⟨k, k1, k2, rfl⟩ := hrel
    by_cases hlt : k < Y
    ·have hm : Civ.ahead (k + 1) ≤ n := by
      have := Civ.ahead_mono (y := k + 1) (z := Y) (by omega); omega
     go_wp2_with (first | (go_at_call 116; refine (rAhead_any _ _ (by omega) (by omega)).mono ?_; rintro e w' ⟨rfl, rfl⟩))
     go_round
     case rel => exact ⟨k + 1, by omega, by omega, rfl⟩
     case measure => simp [intOf]; omega
    ·obtain rfl : k = Y := by omega
     have hm : n < Civ.ahead (k + 1) := hyr.2
     obtain ⟨hy1, hy2⟩ := hyr
     go_wp2_with (first | (go_at_call 116; refine (rAhead_any _ _ (by omega) (by omega)).mono ?_; rintro e w' ⟨rfl, rfl⟩))
     go_loop [7, 8] (fun m d => ∃ j : Int, 1 ≤ j ∧ j ≤ M ∧ m = .int .i64 j ∧ d = .int .i64 (n - Civ.ahead k + 1 - Civ.til k j)) (fun m _ => (M - intOf m).toNat)
     case atStart => exact ⟨1, by omega, by omega, rfl, by rw [Civ.til_first]; simp⟩
     case round =>
      obtain ⟨j, j1, j2, rfl, rfl⟩ := hrel
      have b3 := Civ.til_bd k j
      have b4 := Civ.len_bd k j
      by_cases hlt : j < M
      ·have hs := Civ.til_succ (y := k) (m := j) ((Civ.isYear_iff k).2 ⟨y1, y2⟩) (by omega) (by omega)
       have hm := HM.out j j1 hlt
       have hde := Hde.out
       have hgo : Civ.len k j < n - Civ.ahead k + 1 - Civ.til k j := by omega
       have Hs := Lib.hid hs
       clear hs hm hde
       go_wp2_with (first | (go_at_call 82; refine (rLen_any _ _ _).mono ?_; rintro e w' ⟨rfl, rfl⟩))
       go_round
       case rel => exact ⟨j + 1, by omega, by omega, rfl, by rw [Hs.out]; go_num⟩
       case measure => simp [intOf]; omega
      ·obtain rfl : j = M := by omega
       have hde := Hde.out
       have hno : n - Civ.ahead k + 1 - Civ.til k j ≤ Civ.len k j := by omega
       clear hde
       go_wp2_with (first | (go_at_call 82; refine (rLen_any _ _ _).mono ?_; rintro e w' ⟨rfl, rfl⟩))
       refine bodyPost_ret (results_tmp4 rfl _ _ _) rfl ?_
       exact ⟨ret_4 rfl rfl (by have := Hde.out; omega) HE.out.symm, rfl⟩
  ·go_enter Tryz.func114, Tryz.ntmps114
   go_wp2
   refine bodyPost_ret (results_tmp4 rfl _ _ _) rfl ?_
   have hd : Civ.isDay n = false := by simp [Civ.isDay]; omega
   exact ⟨ret_4 (by simp [Civ.dateY, hd]) (by simp [Civ.dateM, hd]) (by simp [Civ.dateD, hd]) (by simp [Civ.dateE, hd]), rfl⟩
 ·go_enter Tryz.func114, Tryz.ntmps114
  go_wp2
  refine bodyPost_ret (results_tmp4 rfl _ _ _) rfl ?_
  have hd : Civ.isDay n = false := by simp [Civ.isDay]; omega
  exact ⟨ret_4 (by simp [Civ.dateY, hd]) (by simp [Civ.dateM, hd]) (by simp [Civ.dateD, hd]) (by simp [Civ.dateE, hd]), rfl⟩
theorem rWeekday_any (n : Int) (w : World) : Calls Tryz.prog 182 #[.int .i64 n] w fun e w' => e = .returned (.int .i64 (Civ.weekday n)) ∧ w = w' := by
 by_cases h1 : 0 ≤ n <;> by_cases h2 : n ≤ 3652058
 all_goals
  go_enter Tryz.func182, Tryz.ntmps182
  go_wp2
  go_ret
  exact ⟨ret_i (by simp [Civ.weekday, Civ.isDay]; omega), rfl⟩
set_option maxHeartbeats 400000 in
theorem rPlace_any (n : Int) (w : World) : Calls Tryz.prog 163 #[.int .i64 n] w fun e w' => e = .returned (.int .i64 (Civ.place n)) ∧ w = w' := by
 by_cases h1 : 0 ≤ n
 ·by_cases h2 : n ≤ 3652058
  ·have hd := (Civ.isDay_iff n).2 ⟨h1, h2⟩
   obtain ⟨s1, s2, s3, s4, s5⟩ := Civ.split_spec h1 h2
   have hY : Civ.dateY n = Civ.splitY n := by simp [Civ.dateY, hd]
   have hP : Civ.place n = n - Civ.ahead (Civ.dateY n) + 1 := by simp only [Civ.place, hd, if_true, hY]; omega
   have hA : 0 ≤ Civ.ahead (Civ.dateY n) ∧ Civ.ahead (Civ.dateY n) ≤ n := by
    have e1 : Civ.ahead 1 = 0 := by decide
    have := Civ.ahead_mono (y := 1) (z := Civ.splitY n) s1
    rw [hY]; omega
   have HP := Lib.hid hP
   have HB : 1 ≤ Civ.dateY n ∧ Civ.dateY n ≤ 9999 := by rw [hY]; exact ⟨s1, s2⟩
   clear s1 s2 s3 s4 s5 hY hP hd
   go_enter Tryz.func163, Tryz.ntmps163
   go_wp2_with (first | (go_at_call 114; refine (rDate_any _ _).mono ?_; rintro e w' ⟨rfl, rfl⟩) | (go_at_call 116; refine (rAhead_any _ _ (by omega) (by omega)).mono ?_; rintro e w' ⟨rfl, rfl⟩))
   go_ret
   exact ⟨ret_i HP.out.symm, rfl⟩
  ·go_enter Tryz.func163, Tryz.ntmps163
   go_wp2
   go_ret
   exact ⟨ret_i (by simp [Civ.place, Civ.isDay]; omega), rfl⟩
 ·go_enter Tryz.func163, Tryz.ntmps163
  go_wp2
  go_ret
  exact ⟨ret_i (by simp [Civ.place, Civ.isDay]; omega), rfl⟩
end Go.Proofs.YtkbohijlhhpfbaaGreatDoor.Cw
/- The walks through week. -/
namespace Go.Proofs.YtkbohijlhhpfbaaGreatDoor.Cw
open Go.RowKit
theorem isStart_any (x : Int) (w : World) : Calls Tryz.prog 138 #[.int .i64 x] w fun e w' => e = .returned (.bool (Wk.isStart x)) ∧ w = w' := by
 by_cases h1 : 0 ≤ x <;> by_cases h2 : x < 7
 all_goals
  go_enter Tryz.func138, Tryz.ntmps138
  go_wp2
  go_ret
  exact ⟨ret_b (by simp [Wk.isStart]; omega), rfl⟩
set_option maxHeartbeats 400000 in
theorem back_any (n x : Int) (w : World) (h1 : 0 ≤ n) (h2 : n ≤ 10000000) (h3 : 0 ≤ x) (h4 : x < 7) : Calls Tryz.prog 140 #[.int .i64 n, .int .i64 x] w fun e w' => e = .returned (.int .i64 (Wk.back n x)) ∧ w = w' := by
 have hb := Wk.back_bd n x
 go_enter Tryz.func140, Tryz.ntmps140
 go_wp2
 go_loop [6] (fun v => ∃ k : Int, 0 ≤ k ∧ k ≤ Wk.back n x ∧ v = .int .i64 k) (fun v => (Wk.back n x - intOf v).toNat)
 case atStart => exact ⟨0, by omega, by omega, rfl⟩
 case round =>
  obtain ⟨k, k1, k2, rfl⟩ := hrel
  by_cases hlt : k < Wk.back n x
  ·have hne : ((n - k + 49 - x) % 7 == 0) = false := by rw [beq_eq_false_iff_ne]; unfold Wk.back at hlt; omega
   go_wp2
   go_round
   case rel => exact ⟨k + 1, by omega, by omega, rfl⟩
   case measure => simp [intOf]; omega
  ·have hke : k = Wk.back n x := by omega
   have heq : ((n - k + 49 - x) % 7 == 0) = true := by rw [beq_iff_eq, hke]; unfold Wk.back; omega
   have Hk := Lib.hid hke
   clear hke hlt
   go_wp2
   go_ret
   exact ⟨ret_i Hk.out, rfl⟩
set_option maxHeartbeats 400000 in
theorem fourth_any (y : Int) (w : World) (h1 : 0 ≤ y) (h2 : y ≤ 10002) : Calls Tryz.prog 184 #[.int .i64 y] w fun e w' => e = .returned (.int .i64 (Civ.ahead y + 3)) ∧ w = w' := by
 go_enter Tryz.func184, Tryz.ntmps184
 go_wp2
 go_ret
 exact ⟨ret_i (by unfold Civ.ahead; omega), rfl⟩
set_option maxHeartbeats 400000 in
theorem begin_any (n x : Int) (w : World) : Calls Tryz.prog 99 #[.int .i64 n, .int .i64 x] w fun e w' => e = .returned (.int .i64 (Wk.begin n x)) ∧ w = w' := by
 cases hx : Wk.isStart x
 ·go_enter Tryz.func99, Tryz.ntmps99
  go_wp2_with (first | (go_at_call 138; refine (isStart_any _ _).mono ?_; rintro e w' ⟨rfl, rfl⟩))
  go_ret
  exact ⟨ret_i (by simp [Wk.begin, hx]), rfl⟩
 ·obtain ⟨x1, x2⟩ := (Wk.isStart_iff x).1 hx
  by_cases hn : 0 ≤ n ∧ n ≤ 3652058
  ·have hw := Civ.weekday_of hn.1 hn.2
   obtain ⟨v, hv⟩ : ∃ v : Int, v = n % 7 := ⟨_, rfl⟩
   rw [← hv] at hw
   have v1 : 0 ≤ v := by omega
   clear hv
   have hb := Wk.back_bd n x
   obtain ⟨n1, n2⟩ := hn
   go_enter Tryz.func99, Tryz.ntmps99
   go_wp2_with (first | (go_at_call 138; refine (isStart_any _ _).mono ?_; rintro e w' ⟨rfl, rfl⟩) | (go_at_call 139; refine (weekday_any _ _).mono ?_; rintro e w' ⟨rfl, rfl⟩) | (go_at_call 140; refine (back_any _ _ _ (by omega) (by omega) (by omega) (by omega)).mono ?_; rintro e w' ⟨rfl, rfl⟩))
   go_ret
   exact ⟨ret_i (by unfold Wk.begin; rw [if_pos ⟨hx, n1, n2⟩]), rfl⟩
  ·have hw : Civ.weekday n = -1 := by
    unfold Civ.weekday; rw [if_neg]; rw [Civ.isDay_iff]; exact hn
   go_enter Tryz.func99, Tryz.ntmps99
   go_wp2_with (first | (go_at_call 138; refine (isStart_any _ _).mono ?_; rintro e w' ⟨rfl, rfl⟩) | (go_at_call 139; refine (weekday_any _ _).mono ?_; rintro e w' ⟨rfl, rfl⟩))
   go_ret
   exact ⟨ret_i (by unfold Wk.begin; rw [if_neg]; intro hh; exact hn hh.2), rfl⟩
set_option maxHeartbeats 400000 in
theorem first_any (y x : Int) (w : World) : Calls Tryz.prog 174 #[.int .i64 y, .int .i64 x] w fun e w' => e = .returned (.int .i64 (Wk.first y x)) ∧ w = w' := by
 cases hx : Wk.isStart x
 ·go_enter Tryz.func174, Tryz.ntmps174
  go_wp2_with (first | (go_at_call 138; refine (isStart_any _ _).mono ?_; rintro e w' ⟨rfl, rfl⟩))
  go_ret
  exact ⟨ret_i (by simp [Wk.first, hx]), rfl⟩
 ·obtain ⟨x1, x2⟩ := (Wk.isStart_iff x).1 hx
  by_cases h1 : 0 ≤ y
  ·by_cases h2 : y ≤ 10001
   ·have ha := Wk.ahead_rng h1 (by omega : y ≤ 10002)
    have hb := Wk.back_bd (Civ.ahead y + 3 + 146097) x
    go_enter Tryz.func174, Tryz.ntmps174
    go_wp2_with (first | (go_at_call 138; refine (isStart_any _ _).mono ?_; rintro e w' ⟨rfl, rfl⟩) | (go_at_call 184; refine (fourth_any _ _ (by omega) (by omega)).mono ?_; rintro e w' ⟨rfl, rfl⟩) | (go_at_call 140; refine (back_any _ _ _ (by omega) (by omega) (by omega) (by omega)).mono ?_; rintro e w' ⟨rfl, rfl⟩))
    go_ret
    exact ⟨ret_i (by unfold Wk.first; rw [if_pos ⟨hx, h1, h2⟩]; unfold Wk.fst Wk.back; omega), rfl⟩
   ·go_enter Tryz.func174, Tryz.ntmps174
    go_wp2_with (first | (go_at_call 138; refine (isStart_any _ _).mono ?_; rintro e w' ⟨rfl, rfl⟩))
    go_ret
    exact ⟨ret_i (by unfold Wk.first; rw [if_neg]; intro hh; omega), rfl⟩
  ·go_enter Tryz.func174, Tryz.ntmps174
   go_wp2_with (first | (go_at_call 138; refine (isStart_any _ _).mono ?_; rintro e w' ⟨rfl, rfl⟩))
   go_ret
   exact ⟨ret_i (by unfold Wk.first; rw [if_neg]; intro hh; omega), rfl⟩
theorem first_bd (y x : Int) : -400 ≤ Wk.first y x ∧ Wk.first y x ≤ 3652800 := by
 unfold Wk.first
 split
 ·next h =>
  have ha := Wk.ahead_rng h.2.1 (by omega : y ≤ 10002)
  have := Wk.fst_bd y x
  omega
 ·omega
set_option maxHeartbeats 400000 in
theorem weeks_any (y x : Int) (w : World) : Calls Tryz.prog 175 #[.int .i64 y, .int .i64 x] w fun e w' => e = .returned (.int .i64 (Wk.weeks y x)) ∧ w = w' := by
 cases hx : Wk.isStart x
 ·go_enter Tryz.func175, Tryz.ntmps175
  go_wp2_with (first | (go_at_call 138; refine (isStart_any _ _).mono ?_; rintro e w' ⟨rfl, rfl⟩))
  go_ret
  exact ⟨ret_i (by simp [Wk.weeks, hx]), rfl⟩
 ·by_cases h1 : 0 ≤ y
  ·by_cases h2 : y ≤ 10000
   ·have f1 := first_bd y x
    have f2 := first_bd (y + 1) x
    have e1 : Wk.first y x = Wk.fst y x := by unfold Wk.first; rw [if_pos ⟨hx, by omega, by omega⟩]
    have e2 : Wk.first (y + 1) x = Wk.fst (y + 1) x := by unfold Wk.first; rw [if_pos ⟨hx, by omega, by omega⟩]
    have hm := Wk.fst_mono (w := x) (y := y) (z := y + 1) (by omega)
    rw [e1] at f1
    rw [e2] at f2
    go_enter Tryz.func175, Tryz.ntmps175
    go_wp2_with (first | (go_at_call 138; refine (isStart_any _ _).mono ?_; rintro e w' ⟨rfl, rfl⟩) | (go_at_call 174; refine (first_any _ _ _).mono ?_; rintro e w' ⟨rfl, rfl⟩))
    go_ret
    exact ⟨ret_i (by unfold Wk.weeks; rw [if_pos ⟨hx, h1, h2⟩]), rfl⟩
   ·go_enter Tryz.func175, Tryz.ntmps175
    go_wp2_with (first | (go_at_call 138; refine (isStart_any _ _).mono ?_; rintro e w' ⟨rfl, rfl⟩))
    go_ret
    exact ⟨ret_i (by unfold Wk.weeks; rw [if_neg]; intro hh; omega), rfl⟩
  ·go_enter Tryz.func175, Tryz.ntmps175
   go_wp2_with (first | (go_at_call 138; refine (isStart_any _ _).mono ?_; rintro e w' ⟨rfl, rfl⟩))
   go_ret
   exact ⟨ret_i (by unfold Wk.weeks; rw [if_neg]; intro hh; omega), rfl⟩
set_option maxHeartbeats 400000 in
theorem number_any (n x : Int) (w : World) (hT : Tab w) : Calls Tryz.prog 151 #[.int .i64 n, .int .i64 x] w fun e w' => e = .returned (.tuple #[.int .i64 (Wk.numY n x), .int .i64 (Wk.numN n x)]) ∧ w = w' := by
 have HT := Lib.hid hT
 clear hT
 cases hx : Wk.isStart x
 ·go_enter Tryz.func151, Tryz.ntmps151
  go_wp2_with (first | (go_at_call 138; refine (isStart_any _ _).mono ?_; rintro e w' ⟨rfl, rfl⟩))
  go_ret2
  exact ⟨ret_ii (by simp [Wk.numY, hx]) (by simp [Wk.numN, hx]), rfl⟩
 ·obtain ⟨x1, x2⟩ := (Wk.isStart_iff x).1 hx
  by_cases hn : 0 ≤ n ∧ n ≤ 3652058
  ·have hw := Civ.weekday_of hn.1 hn.2
   obtain ⟨v, hv⟩ : ∃ v : Int, v = n % 7 := ⟨_, rfl⟩
   rw [← hv] at hw
   have v1 : 0 ≤ v := by omega
   clear hv
   obtain ⟨n1, n2⟩ := hn
   obtain ⟨y1, y2, _⟩ := Civ.date_spec n1 n2
   obtain ⟨s1, s2, s3, s4, s5, s6⟩ := Wk.year_spec x n1 n2
   have fe : ∀ y, 0 ≤ y → y ≤ 10001 → Wk.first y x = Wk.fst y x := fun y a b => by unfold Wk.first; rw [if_pos ⟨hx, a, b⟩]
   have FE := Lib.hid fe
   have hYN : Wk.numY n x = Wk.year n x := by unfold Wk.numY; rw [if_pos ⟨hx, n1, n2⟩]
   have hNN : Wk.numN n x = (n - Wk.fst (Wk.year n x) x) / 7 + 1 := by unfold Wk.numN; rw [if_pos ⟨hx, n1, n2⟩]
   have HYN := Lib.hid hYN
   have HNN := Lib.hid hNN
   clear fe hYN hNN
   go_enter Tryz.func151, Tryz.ntmps151
   go_wp2_with (first | (go_at_call 138; refine (isStart_any _ _).mono ?_; rintro e w' ⟨rfl, rfl⟩) | (go_at_call 139; refine (weekday_any _ _).mono ?_; rintro e w' ⟨rfl, rfl⟩) | (go_at_call 100; refine (date_any _ _ HT.out).mono ?_; rintro e w' ⟨rfl, rfl⟩))
   go_loop [6] (fun v => ∃ k : Int, Wk.year n x ≤ k ∧ k ≤ Civ.dateY n + 1 ∧ v = .int .i64 k) (fun v => (intOf v - Wk.year n x).toNat)
   case atStart => exact ⟨_, by omega, by omega, rfl⟩
   case round =>
    obtain ⟨k, k1, k2, rfl⟩ := hrel
    have fk : Wk.first k x = Wk.fst k x := FE.out k (by omega) (by omega)
    have ha := Wk.ahead_rng (y := k) (by omega) (by omega)
    have fb := Wk.fst_bd k x
    by_cases hlt : Wk.year n x < k
    ·have hgo : n < Wk.fst k x := by
      have := Wk.fst_mono_le (w := x) (y := Wk.year n x + 1) (z := k) (by omega)
      omega
     go_wp2_with (first | (go_at_call 174; refine (first_any _ _ _).mono ?_; rintro e w' ⟨rfl, rfl⟩))
     go_round
     case rel => exact ⟨k - 1, by omega, by omega, rfl⟩
     case measure => simp [intOf]; omega
    ·have hke : k = Wk.year n x := by omega
     have hno : Wk.fst k x ≤ n := by rw [hke]; exact s1
     have Hk := Lib.hid hke
     clear hke hlt
     go_wp2_with (first | (go_at_call 174; refine (first_any _ _ _).mono ?_; rintro e w' ⟨rfl, rfl⟩))
     go_ret2
     exact ⟨ret_ii (by rw [HYN.out, Hk.out]) (by rw [HNN.out, Hk.out]), rfl⟩
  ·have hw : Civ.weekday n = -1 := by
    unfold Civ.weekday; rw [if_neg]; rw [Civ.isDay_iff]; exact hn
   go_enter Tryz.func151, Tryz.ntmps151
   go_wp2_with (first | (go_at_call 138; refine (isStart_any _ _).mono ?_; rintro e w' ⟨rfl, rfl⟩) | (go_at_call 139; refine (weekday_any _ _).mono ?_; rintro e w' ⟨rfl, rfl⟩))
   go_ret2
   exact ⟨ret_ii (by unfold Wk.numY; rw [if_neg]; intro hh; exact hn hh.2) (by unfold Wk.numN; rw [if_neg]; intro hh; exact hn hh.2), rfl⟩
theorem weeks_bd {y x : Int} (h1 : 0 ≤ x) (h2 : x < 7) (h3 : 0 ≤ y) (h4 : y ≤ 10000) : 52 ≤ Wk.weeks y x ∧ Wk.weeks y x ≤ 53 := by
 have hx := (Wk.isStart_iff x).2 ⟨h1, h2⟩
 have e1 := Wk.fst_bd y x
 have e2 := Wk.fst_bd (y + 1) x
 have e3 := Wk.fst_mod y x
 have e4 := Wk.fst_mod (y + 1) x
 have e5 : Civ.ahead y + 365 ≤ Civ.ahead (y + 1) ∧ Civ.ahead (y + 1) ≤ Civ.ahead y + 366 := by unfold Civ.ahead; omega
 unfold Wk.weeks
 rw [if_pos ⟨hx, h3, h4⟩]
 omega
theorem number_bd (n x : Int) : 0 ≤ Wk.numN n x ∧ Wk.numN n x ≤ 60 ∧ 0 ≤ Wk.numY n x ∧ Wk.numY n x ≤ 10000 := by
 by_cases h : Wk.isStart x = true ∧ 0 ≤ n ∧ n ≤ 3652058
 ·unfold Wk.numN Wk.numY
  rw [if_pos h, if_pos h]
  obtain ⟨s1, s2, s3, s4, s5, s6⟩ := Wk.year_spec x h.2.1 h.2.2
  have e1 := Wk.fst_bd (Wk.year n x) x
  have e2 := Wk.fst_bd (Wk.year n x + 1) x
  have e5 : Civ.ahead (Wk.year n x + 1) ≤ Civ.ahead (Wk.year n x) + 366 := by unfold Civ.ahead; omega
  omega
 ·unfold Wk.numN Wk.numY
  rw [if_neg h, if_neg h]
  omega
theorem weeks_bd' (y x : Int) : 0 ≤ Wk.weeks y x ∧ Wk.weeks y x ≤ 53 := by
 by_cases h : Wk.isStart x = true ∧ 0 ≤ y ∧ y ≤ 10000
 ·obtain ⟨x1, x2⟩ := (Wk.isStart_iff x).1 h.1
  have := weeks_bd x1 x2 h.2.1 h.2.2
  omega
 ·unfold Wk.weeks; rw [if_neg h]; omega
set_option maxHeartbeats 400000 in
theorem backN_any (n x : Int) (w : World) (hT : Tab w) : Calls Tryz.prog 152 #[.int .i64 n, .int .i64 x] w fun e w' => e = .returned (.int .i64 (Wk.backN n x)) ∧ w = w' := by
 have HT := Lib.hid hT
 clear hT
 have nb := number_bd n x
 have wb := weeks_bd' (Wk.numY n x) x
 by_cases h0 : Wk.numN n x = 0
 ·have hb : (Wk.numN n x == 0) = true := by rw [beq_iff_eq]; exact h0
  have H0 := Lib.hid h0
  clear h0
  go_enter Tryz.func152, Tryz.ntmps152
  go_wp2_with (first | (go_at_call 151; refine (number_any _ _ _ HT.out).mono ?_; rintro e w' ⟨rfl, rfl⟩))
  go_ret
  exact ⟨ret_i (by unfold Wk.backN; rw [if_pos H0.out]), rfl⟩
 ·have hb : (Wk.numN n x == 0) = false := by rw [beq_eq_false_iff_ne]; exact h0
  go_enter Tryz.func152, Tryz.ntmps152
  go_wp2_with (first | (go_at_call 151; refine (number_any _ _ _ HT.out).mono ?_; rintro e w' ⟨rfl, rfl⟩) | (go_at_call 175; refine (weeks_any _ _ _).mono ?_; rintro e w' ⟨rfl, rfl⟩))
  go_ret
  exact ⟨ret_i (by unfold Wk.backN; rw [if_neg (by omega)]), rfl⟩
end Go.Proofs.YtkbohijlhhpfbaaGreatDoor.Cw
/- The walks through errandref10. -/
namespace Go.Proofs.YtkbohijlhhpfbaaGreatDoor.Cw
open Go.RowKit
theorem isStart_no {x : Int} (h : ¬ (0 ≤ x ∧ x < 7)) : Wk.isStart x = false := by
 cases hh : Wk.isStart x
 ·rfl
 ·exact absurd ((Wk.isStart_iff x).1 hh) h
theorem rIs_any (x : Int) (w : World) : Calls Tryz.prog 158 #[.int .i64 x] w fun e w' => e = .returned (.bool (Wk.isStart x)) ∧ w = w' := by
 by_cases h1 : 0 ≤ x
 ·by_cases h2 : x ≤ 6
  ·go_enter Tryz.func158, Tryz.ntmps158
   go_wp2
   go_ret
   exact ⟨ret_b ((Wk.isStart_iff x).2 ⟨by omega, by omega⟩).symm, rfl⟩
  ·go_enter Tryz.func158, Tryz.ntmps158
   go_wp2
   go_ret
   exact ⟨ret_b (isStart_no (by omega)).symm, rfl⟩
 ·go_enter Tryz.func158, Tryz.ntmps158
  go_wp2
  go_ret
  exact ⟨ret_b (isStart_no (by omega)).symm, rfl⟩
theorem rem7 (k : Int) : (wrap64 (k.tmod 7 + 7)).tmod 7 = k % 7 := by
 have h : k.tmod 7 = if 0 ≤ k then k % 7 else -((-k) % 7) := by
  split
  ·next h => exact Int.tmod_eq_emod_of_nonneg h
  ·next h =>
   have e : k = -(-k) := by omega
   conv => lhs; rw [e]
   rw [Int.neg_tmod, Int.tmod_eq_emod_of_nonneg (by omega)]
 have hb : -6 ≤ k.tmod 7 ∧ k.tmod 7 ≤ 6 := by rw [h]; split <;> omega
 rw [IntWalk.wrap64_in _ ⟨by omega, by omega⟩, Int.tmod_eq_emod_of_nonneg (by omega), h]
 split <;> omega
set_option maxHeartbeats 400000 in
theorem rbegin_any (n x : Int) (w : World) (h1 : -1000 ≤ n) (h2 : n ≤ 10000000) (h3 : 0 ≤ x) (h4 : x < 7) : Calls Tryz.prog 159 #[.int .i64 n, .int .i64 x] w fun e w' => e = .returned (.int .i64 (n - Wk.back n x)) ∧ w = w' := by
 have hb := Wk.back_bd n x
 go_enter Tryz.func159, Tryz.ntmps159
 go_wp2
 go_loop [0] (fun v => ∃ k : Int, n - Wk.back n x ≤ k ∧ k ≤ n ∧ v = .int .i64 k) (fun v => (intOf v - (n - Wk.back n x)).toNat)
 case atStart => exact ⟨n, by omega, by omega, rfl⟩
 case round =>
  obtain ⟨k, k1, k2, rfl⟩ := hrel
  by_cases hlt : n - Wk.back n x < k
  ·have hr := rem7 k
   have hne : (k % 7 != x) = true := by rw [bne_iff_ne]; unfold Wk.back at k1 hlt; omega
   go_wp2
   go_round
   case rel => exact ⟨k - 1, by omega, by omega, rfl⟩
   case measure => simp [intOf]; omega
  ·have hke : k = n - Wk.back n x := by omega
   have hr := rem7 k
   have hne : (k % 7 != x) = false := by rw [bne_eq_false_iff_eq, hke]; unfold Wk.back; omega
   have Hk := Lib.hid hke
   clear hke hlt
   go_wp2
   go_ret
   exact ⟨ret_i Hk.out, rfl⟩
set_option maxHeartbeats 400000 in
theorem rBegin_any (n x : Int) (w : World) : Calls Tryz.prog 115 #[.int .i64 n, .int .i64 x] w fun e w' => e = .returned (.int .i64 (Wk.begin n x)) ∧ w = w' := by
 cases hx : Wk.isStart x
 ·go_enter Tryz.func115, Tryz.ntmps115
  go_wp2_with (first | (go_at_call 158; refine (rIs_any _ _).mono ?_; rintro e w' ⟨rfl, rfl⟩))
  go_ret
  exact ⟨ret_i (by simp [Wk.begin, hx]), rfl⟩
 ·obtain ⟨x1, x2⟩ := (Wk.isStart_iff x).1 hx
  by_cases h1 : 0 ≤ n
  ·by_cases h2 : n ≤ 3652058
   ·go_enter Tryz.func115, Tryz.ntmps115
    go_wp2_with (first | (go_at_call 158; refine (rIs_any _ _).mono ?_; rintro e w' ⟨rfl, rfl⟩) | (go_at_call 159; refine (rbegin_any _ _ _ (by omega) (by omega) (by omega) (by omega)).mono ?_; rintro e w' ⟨rfl, rfl⟩))
    go_ret
    exact ⟨ret_i (by unfold Wk.begin; rw [if_pos ⟨hx, h1, h2⟩]), rfl⟩
   ·go_enter Tryz.func115, Tryz.ntmps115
    go_wp2_with (first | (go_at_call 158; refine (rIs_any _ _).mono ?_; rintro e w' ⟨rfl, rfl⟩))
    go_ret
    exact ⟨ret_i (by unfold Wk.begin; rw [if_neg]; intro hh; omega), rfl⟩
  ·go_enter Tryz.func115, Tryz.ntmps115
   go_wp2_with (first | (go_at_call 158; refine (rIs_any _ _).mono ?_; rintro e w' ⟨rfl, rfl⟩))
   go_ret
   exact ⟨ret_i (by unfold Wk.begin; rw [if_neg]; intro hh; omega), rfl⟩
set_option maxHeartbeats 400000 in
theorem january_any (y : Int) (w : World) (h1 : 0 ≤ y) (h2 : y ≤ 10001) : Calls Tryz.prog 185 #[.int .i64 y] w fun e w' => e = .returned (.int .i64 (Civ.ahead y + 3)) ∧ w = w' := by
 by_cases h0 : y = 0
 ·have h0' : (y == 0) = true := by rw [beq_iff_eq]; exact h0
  have H0 := Lib.hid h0
  clear h0
  go_enter Tryz.func185, Tryz.ntmps185
  go_wp2
  go_ret
  exact ⟨ret_i (by rw [H0.out]; decide), rfl⟩
 ·have h0' : (y == 0) = false := by rw [beq_eq_false_iff_ne]; exact h0
  by_cases h3 : y ≤ 9999
  ·have hd := (Civ.day_of (y := y) (m := 1) (d := 4) (by omega) (by have := Civ.len_ge (y := y) (m := 1) (by omega) h3 (by omega) (by omega); omega)).1
   rw [Civ.til_first] at hd
   have Hd := Lib.hid hd
   clear hd
   go_enter Tryz.func185, Tryz.ntmps185
   go_wp2_with (first | (go_at_call 81; refine (rDay_any _ _ _ _).mono ?_; rintro e w' ⟨rfl, rfl⟩))
   go_ret
   exact ⟨ret_i (by rw [Hd.out]; omega), rfl⟩
  ·have e1 : Civ.day 9999 1 4 = 3651697 := by decide
   have hy : y = 10000 ∨ y = 10001 := by omega
   rcases hy with rfl | rfl
   all_goals
    go_enter Tryz.func185, Tryz.ntmps185
    go_wp2_with (first | (go_at_call 81; refine (rDay_any _ _ _ _).mono ?_; rintro e w' ⟨rfl, rfl⟩))
    go_ret
    exact ⟨ret_i (by decide), rfl⟩
set_option maxHeartbeats 400000 in
theorem rFirst_any (y x : Int) (w : World) : Calls Tryz.prog 179 #[.int .i64 y, .int .i64 x] w fun e w' => e = .returned (.int .i64 (Wk.first y x)) ∧ w = w' := by
 cases hx : Wk.isStart x
 ·go_enter Tryz.func179, Tryz.ntmps179
  go_wp2_with (first | (go_at_call 158; refine (rIs_any _ _).mono ?_; rintro e w' ⟨rfl, rfl⟩))
  go_ret
  exact ⟨ret_i (by simp [Wk.first, hx]), rfl⟩
 ·obtain ⟨x1, x2⟩ := (Wk.isStart_iff x).1 hx
  by_cases h1 : 0 ≤ y
  ·by_cases h2 : y ≤ 10001
   ·have ha := Wk.ahead_rng h1 (by omega : y ≤ 10002)
    go_enter Tryz.func179, Tryz.ntmps179
    go_wp2_with (first | (go_at_call 158; refine (rIs_any _ _).mono ?_; rintro e w' ⟨rfl, rfl⟩) | (go_at_call 185; refine (january_any _ _ (by omega) (by omega)).mono ?_; rintro e w' ⟨rfl, rfl⟩) | (go_at_call 159; refine (rbegin_any _ _ _ (by omega) (by omega) (by omega) (by omega)).mono ?_; rintro e w' ⟨rfl, rfl⟩))
    go_ret
    exact ⟨ret_i (by unfold Wk.first; rw [if_pos ⟨hx, h1, h2⟩]; rfl), rfl⟩
   ·go_enter Tryz.func179, Tryz.ntmps179
    go_wp2_with (first | (go_at_call 158; refine (rIs_any _ _).mono ?_; rintro e w' ⟨rfl, rfl⟩))
    go_ret
    exact ⟨ret_i (by unfold Wk.first; rw [if_neg]; intro hh; omega), rfl⟩
  ·go_enter Tryz.func179, Tryz.ntmps179
   go_wp2_with (first | (go_at_call 158; refine (rIs_any _ _).mono ?_; rintro e w' ⟨rfl, rfl⟩))
   go_ret
   exact ⟨ret_i (by unfold Wk.first; rw [if_neg]; intro hh; omega), rfl⟩
set_option maxHeartbeats 400000 in
theorem rWeeks_any (y x : Int) (w : World) : Calls Tryz.prog 180 #[.int .i64 y, .int .i64 x] w fun e w' => e = .returned (.int .i64 (Wk.weeks y x)) ∧ w = w' := by
 cases hx : Wk.isStart x
 ·go_enter Tryz.func180, Tryz.ntmps180
  go_wp2_with (first | (go_at_call 158; refine (rIs_any _ _).mono ?_; rintro e w' ⟨rfl, rfl⟩))
  go_ret
  exact ⟨ret_i (by simp [Wk.weeks, hx]), rfl⟩
 ·by_cases h1 : 0 ≤ y
  ·by_cases h2 : y ≤ 10000
   ·have f1 := first_bd y x
    have f2 := first_bd (y + 1) x
    have e1 : Wk.first y x = Wk.fst y x := by unfold Wk.first; rw [if_pos ⟨hx, by omega, by omega⟩]
    have e2 : Wk.first (y + 1) x = Wk.fst (y + 1) x := by unfold Wk.first; rw [if_pos ⟨hx, by omega, by omega⟩]
    have hm := Wk.fst_mono (w := x) (y := y) (z := y + 1) (by omega)
    rw [e1] at f1
    rw [e2] at f2
    go_enter Tryz.func180, Tryz.ntmps180
    go_wp2_with (first | (go_at_call 158; refine (rIs_any _ _).mono ?_; rintro e w' ⟨rfl, rfl⟩) | (go_at_call 179; refine (rFirst_any _ _ _).mono ?_; rintro e w' ⟨rfl, rfl⟩))
    go_ret
    exact ⟨ret_i (by unfold Wk.weeks; rw [if_pos ⟨hx, h1, h2⟩]), rfl⟩
   ·go_enter Tryz.func180, Tryz.ntmps180
    go_wp2_with (first | (go_at_call 158; refine (rIs_any _ _).mono ?_; rintro e w' ⟨rfl, rfl⟩))
    go_ret
    exact ⟨ret_i (by unfold Wk.weeks; rw [if_neg]; intro hh; omega), rfl⟩
  ·go_enter Tryz.func180, Tryz.ntmps180
   go_wp2_with (first | (go_at_call 158; refine (rIs_any _ _).mono ?_; rintro e w' ⟨rfl, rfl⟩))
   go_ret
   exact ⟨ret_i (by unfold Wk.weeks; rw [if_neg]; intro hh; omega), rfl⟩
set_option maxHeartbeats 1000000 in
theorem rNumber_any (n x : Int) (w : World) : Calls Tryz.prog 160 #[.int .i64 n, .int .i64 x] w fun e w' => e = .returned (.tuple #[.int .i64 (Wk.numY n x), .int .i64 (Wk.numN n x)]) ∧ w = w' := by
 cases hx : Wk.isStart x
 ·go_enter Tryz.func160, Tryz.ntmps160
  go_wp2_with (first | (go_at_call 158; refine (rIs_any _ _).mono ?_; rintro e w' ⟨rfl, rfl⟩))
  go_ret2
  exact ⟨ret_ii (by simp [Wk.numY, hx]) (by simp [Wk.numN, hx]), rfl⟩
 ·by_cases h1 : 0 ≤ n
  ·by_cases h2 : n ≤ 3652058
   ·obtain ⟨y1, y2, _⟩ := Civ.date_spec h1 h2
    obtain ⟨s1, s2, s3, s4, s5, s6⟩ := Wk.year_spec x h1 h2
    have e0 : Wk.first (Civ.dateY n) x = Wk.fst (Civ.dateY n) x := by unfold Wk.first; rw [if_pos ⟨hx, by omega, by omega⟩]
    have e1 : Wk.first (Civ.dateY n + 1) x = Wk.fst (Civ.dateY n + 1) x := by unfold Wk.first; rw [if_pos ⟨hx, by omega, by omega⟩]
    have e2 : Wk.first (Civ.dateY n - 1) x = Wk.fst (Civ.dateY n - 1) x := by unfold Wk.first; rw [if_pos ⟨hx, by omega, by omega⟩]
    have hYN : Wk.numY n x = Wk.year n x := by unfold Wk.numY; rw [if_pos ⟨hx, h1, h2⟩]
    have hNN : Wk.numN n x = (n - Wk.fst (Wk.year n x) x) / 7 + 1 := by unfold Wk.numN; rw [if_pos ⟨hx, h1, h2⟩]
    have HYN := Lib.hid hYN
    have HNN := Lib.hid hNN
    clear hYN hNN
    by_cases c1 : n < Wk.fst (Civ.dateY n) x
    ·have hy : Wk.year n x = Civ.dateY n - 1 := by unfold Wk.year; rw [if_pos c1]
     have Hy := Lib.hid hy
     rw [hy] at s1
     have fb := Wk.fst_bd (Civ.dateY n - 1) x
     have ha := Wk.ahead_rng (y := Civ.dateY n - 1) (by omega) (by omega)
     clear hy s2 s3 s4 s5 s6
     go_enter Tryz.func160, Tryz.ntmps160
     go_wp2_with (first | (go_at_call 158; refine (rIs_any _ _).mono ?_; rintro e w' ⟨rfl, rfl⟩) | (go_at_call 114; refine (rDate_any _ _).mono ?_; rintro e w' ⟨rfl, rfl⟩) | (go_at_call 179; refine (rFirst_any _ _ _).mono ?_; rintro e w' ⟨rfl, rfl⟩))
     go_ret2
     exact ⟨ret_ii (by rw [HYN.out, Hy.out]) (by rw [HNN.out, Hy.out]), rfl⟩
    ·by_cases c2 : Wk.fst (Civ.dateY n + 1) x ≤ n
     ·have hy : Wk.year n x = Civ.dateY n + 1 := by unfold Wk.year; rw [if_neg c1, if_pos c2]
      have Hy := Lib.hid hy
      rw [hy] at s1
      have fb := Wk.fst_bd (Civ.dateY n + 1) x
      have ha := Wk.ahead_rng (y := Civ.dateY n + 1) (by omega) (by omega)
      clear hy s2 s3 s4 s5 s6
      go_enter Tryz.func160, Tryz.ntmps160
      go_wp2_with (first | (go_at_call 158; refine (rIs_any _ _).mono ?_; rintro e w' ⟨rfl, rfl⟩) | (go_at_call 114; refine (rDate_any _ _).mono ?_; rintro e w' ⟨rfl, rfl⟩) | (go_at_call 179; refine (rFirst_any _ _ _).mono ?_; rintro e w' ⟨rfl, rfl⟩))
      go_ret2
      exact ⟨ret_ii (by rw [HYN.out, Hy.out]) (by rw [HNN.out, Hy.out]), rfl⟩
     ·have hy : Wk.year n x = Civ.dateY n := by unfold Wk.year; rw [if_neg c1, if_neg c2]
      have Hy := Lib.hid hy
      rw [hy] at s1
      have fb := Wk.fst_bd (Civ.dateY n) x
      have ha := Wk.ahead_rng (y := Civ.dateY n) (by omega) (by omega)
      clear hy s2 s3 s4 s5 s6
      go_enter Tryz.func160, Tryz.ntmps160
      go_wp2_with (first | (go_at_call 158; refine (rIs_any _ _).mono ?_; rintro e w' ⟨rfl, rfl⟩) | (go_at_call 114; refine (rDate_any _ _).mono ?_; rintro e w' ⟨rfl, rfl⟩) | (go_at_call 179; refine (rFirst_any _ _ _).mono ?_; rintro e w' ⟨rfl, rfl⟩))
      go_ret2
      exact ⟨ret_ii (by rw [HYN.out, Hy.out]) (by rw [HNN.out, Hy.out]), rfl⟩
   ·go_enter Tryz.func160, Tryz.ntmps160
    go_wp2_with (first | (go_at_call 158; refine (rIs_any _ _).mono ?_; rintro e w' ⟨rfl, rfl⟩))
    go_ret2
    exact ⟨ret_ii (by unfold Wk.numY; rw [if_neg]; intro hh; omega) (by unfold Wk.numN; rw [if_neg]; intro hh; omega), rfl⟩
  ·go_enter Tryz.func160, Tryz.ntmps160
   go_wp2_with (first | (go_at_call 158; refine (rIs_any _ _).mono ?_; rintro e w' ⟨rfl, rfl⟩))
   go_ret2
   exact ⟨ret_ii (by unfold Wk.numY; rw [if_neg]; intro hh; omega) (by unfold Wk.numN; rw [if_neg]; intro hh; omega), rfl⟩
set_option maxHeartbeats 400000 in
theorem rBack_any (n x : Int) (w : World) : Calls Tryz.prog 161 #[.int .i64 n, .int .i64 x] w fun e w' => e = .returned (.int .i64 (Wk.backN n x)) ∧ w = w' := by
 have nb := number_bd n x
 have wb := weeks_bd' (Wk.numY n x) x
 by_cases h0 : Wk.numN n x = 0
 ·have hb : (Wk.numN n x == 0) = true := by rw [beq_iff_eq]; exact h0
  have H0 := Lib.hid h0
  clear h0
  go_enter Tryz.func161, Tryz.ntmps161
  go_wp2_with (first | (go_at_call 160; refine (rNumber_any _ _ _).mono ?_; rintro e w' ⟨rfl, rfl⟩))
  go_ret
  exact ⟨ret_i (by unfold Wk.backN; rw [if_pos H0.out]), rfl⟩
 ·have hb : (Wk.numN n x == 0) = false := by rw [beq_eq_false_iff_ne]; exact h0
  go_enter Tryz.func161, Tryz.ntmps161
  go_wp2_with (first | (go_at_call 160; refine (rNumber_any _ _ _).mono ?_; rintro e w' ⟨rfl, rfl⟩) | (go_at_call 180; refine (rWeeks_any _ _ _).mono ?_; rintro e w' ⟨rfl, rfl⟩))
  go_ret
  exact ⟨ret_i (by unfold Wk.backN; rw [if_neg (by omega)]; omega), rfl⟩
end Go.Proofs.YtkbohijlhhpfbaaGreatDoor.Cw
/- The walks through period. -/
namespace Go.Proofs.YtkbohijlhhpfbaaGreatDoor.Cw
open Go.RowKit
theorem counts_any (f x : Int) (w : World) : Calls Tryz.prog 97 #[.int .u8 f, .int .i64 x] w fun e w' => e = .returned (.bool (Pd.counts f x)) ∧ w = w' := by
 by_cases h1 : f ≤ 6
 ·by_cases h2 : 0 ≤ x
  ·by_cases h3 : x ≤ 6
   ·go_enter Tryz.func97, Tryz.ntmps97
    go_wp2
    go_ret
    exact ⟨ret_b (by simp [Pd.counts]; omega), rfl⟩
   ·go_enter Tryz.func97, Tryz.ntmps97
    go_wp2
    go_ret
    exact ⟨ret_b (by simp [Pd.counts]; omega), rfl⟩
  ·go_enter Tryz.func97, Tryz.ntmps97
   go_wp2
   go_ret
   exact ⟨ret_b (by simp [Pd.counts]; omega), rfl⟩
 ·go_enter Tryz.func97, Tryz.ntmps97
  go_wp2
  go_ret
  exact ⟨ret_b (by simp [Pd.counts]; omega), rfl⟩
theorem unit_any (f : Int) (w : World) (h1 : 0 ≤ f) (h2 : f ≤ 3) : Calls Tryz.prog 98 #[.int .u8 f] w fun e w' => e = .returned (.int .i64 (Pd.unit f)) ∧ w = w' := by
 have hf : f = 0 ∨ f = 1 ∨ f = 2 ∨ f = 3 := by omega
 rcases hf with rfl | rfl | rfl | rfl
 all_goals
  go_enter Tryz.func98, Tryz.ntmps98
  go_wp2
  go_ret
  exact ⟨ret_i (by simp [Pd.unit]), rfl⟩
theorem clip_any (a b : Int) (w : World) (h1 : -100000 ≤ a) (h2 : a ≤ 10000000) (h3 : -100000 ≤ b) (h4 : b ≤ 10000000) : Calls Tryz.prog 106 #[.int .i64 a, .int .i64 b] w fun e w' => e = .returned (.tuple #[.int .i64 (Pd.lo a), .int .i64 (Pd.hi b)]) ∧ w = w' := by
 by_cases h5 : 0 ≤ a <;> by_cases h6 : b ≤ 3652059
 all_goals
  go_enter Tryz.func106, Tryz.ntmps106
  go_wp2
  all_goals
   go_ret2
   exact ⟨ret_ii (by unfold Pd.lo; first | rw [if_pos (by omega)] | (rw [if_neg (by omega)])) (by unfold Pd.hi; first | rw [if_pos (by omega)] | (rw [if_neg (by omega)])), rfl⟩
theorem tdiv7 {a : Int} (h : a % 7 = 0) : a.tdiv 7 = a / 7 := Int.tdiv_eq_ediv_of_dvd (by omega)
set_option maxHeartbeats 1000000 in
theorem index_any (f x s : Int) (w : World) (hT : Tab w) (f0 : 0 ≤ f) : Calls Tryz.prog 61 #[.int .u8 f, .int .i64 x, .int .i64 s] w fun e w' => e = .returned (.int .i64 (Pd.index f x s)) ∧ w = w' := by
 have HT := Lib.hid hT
 clear hT
 by_cases hc : Pd.counts f x = true
 ·obtain ⟨c1, c2, c3⟩ := (Pd.counts_iff f x).1 hc
  by_cases s1 : 0 ≤ s
  ·by_cases s2 : s ≤ 315537897599
   ·have hi : Pd.index f x s = Pd.num f x s := by unfold Pd.index; rw [if_pos ⟨hc, s1, s2⟩]
    have Hi := Lib.hid hi
    clear hi
    have hu0 : Pd.unit 0 = 1 := rfl
    have hu1 : Pd.unit 1 = 60 := rfl
    have hu2 : Pd.unit 2 = 3600 := rfl
    have hu3 : Pd.unit 3 = 86400 := rfl
    have d1 : 0 ≤ s / 86400 := by omega
    have d2 : s / 86400 ≤ 3652058 := by omega
    have hx := (Wk.isStart_iff x).2 ⟨c2, by omega⟩
    have hb : Wk.begin (s / 86400) x = s / 86400 - Wk.back (s / 86400) x := by unfold Wk.begin; rw [if_pos ⟨hx, d1, d2⟩]
    have bb := Wk.back_bd (s / 86400) x
    have ht := tdiv7 (a := s / 86400 - Wk.back (s / 86400) x - x) (by unfold Wk.back; omega)
    obtain ⟨y1, y2, m1, m2, _, _, _⟩ := Civ.date_spec d1 d2
    have hf : f = 0 ∨ f = 1 ∨ f = 2 ∨ f = 3 ∨ f = 4 ∨ f = 5 ∨ f = 6 := by omega
    rcases hf with rfl | rfl | rfl | rfl | rfl | rfl | rfl
    all_goals
     go_enter Tryz.func61, Tryz.ntmps61
     go_wp2_with (first | (go_at_call 97; refine (counts_any _ _ _).mono ?_; rintro e w' ⟨rfl, rfl⟩) | (go_at_call 98; refine (unit_any _ _ (by omega) (by omega)).mono ?_; rintro e w' ⟨rfl, rfl⟩) | (go_at_call 99; refine (begin_any _ _ _).mono ?_; rintro e w' ⟨rfl, rfl⟩) | (go_at_call 100; refine (date_any _ _ HT.out).mono ?_; rintro e w' ⟨rfl, rfl⟩))
     go_ret
     exact ⟨ret_i (by rw [Hi.out]; simp [Pd.num, Pd.unit]), rfl⟩
   ·go_enter Tryz.func61, Tryz.ntmps61
    go_wp2_with (first | (go_at_call 97; refine (counts_any _ _ _).mono ?_; rintro e w' ⟨rfl, rfl⟩))
    go_ret
    exact ⟨ret_i (by unfold Pd.index; rw [if_neg (by omega)]), rfl⟩
  ·go_enter Tryz.func61, Tryz.ntmps61
   go_wp2_with (first | (go_at_call 97; refine (counts_any _ _ _).mono ?_; rintro e w' ⟨rfl, rfl⟩))
   go_ret
   exact ⟨ret_i (by unfold Pd.index; rw [if_neg (by omega)]), rfl⟩
 ·go_enter Tryz.func61, Tryz.ntmps61
  go_wp2_with (first | (go_at_call 97; refine (counts_any _ _ _).mono ?_; rintro e w' ⟨rfl, rfl⟩))
  go_ret
  exact ⟨ret_i (by unfold Pd.index; rw [if_neg (fun h => hc h.1)]), rfl⟩
theorem last_any (f x : Int) (w : World) (hT : Tab w) (f0 : 0 ≤ f) : Calls Tryz.prog 90 #[.int .u8 f, .int .i64 x] w fun e w' => e = .returned (.int .i64 (Pd.last f x)) ∧ w = w' := by
 have HT := Lib.hid hT
 clear hT
 go_enter Tryz.func90, Tryz.ntmps90
 go_wp2_with (first | (go_at_call 61; refine (index_any _ _ _ _ HT.out f0).mono ?_; rintro e w' ⟨rfl, rfl⟩))
 go_ret
 exact ⟨rfl, rfl⟩
set_option maxHeartbeats 2000000 in
theorem stretch_any (f x i : Int) (w : World) (hT : Tab w) (f0 : 0 ≤ f) : Calls Tryz.prog 68 #[.int .u8 f, .int .i64 x, .int .i64 i] w fun e w' => e = .returned (.tuple #[.int .i64 (Pd.frm f x i), .int .i64 (Pd.to f x i)]) ∧ w = w' := by
 have HT := Lib.hid hT
 clear hT
 by_cases hc : Pd.counts f x = true
 ·obtain ⟨c1, c2, c3⟩ := (Pd.counts_iff f x).1 hc
  by_cases i1 : Pd.index f x 0 ≤ i
  ·by_cases i2 : i ≤ Pd.last f x
   ·have hF : Pd.frm f x i = if f ≤ 3 then i * Pd.unit f else Pd.lo (Pd.day0 f x i) := by unfold Pd.frm; rw [if_pos ⟨hc, i1, i2⟩]
    have hL : Pd.to f x i = if f ≤ 3 then (i + 1) * Pd.unit f else Pd.hi (Pd.day1 f x i) := by unfold Pd.to; rw [if_pos ⟨hc, i1, i2⟩]
    have HF := Lib.hid hF
    have HL := Lib.hid hL
    clear hF hL
    have hu0 : Pd.unit 0 = 1 := rfl
    have hu1 : Pd.unit 1 = 60 := rfl
    have hu2 : Pd.unit 2 = 3600 := rfl
    have hu3 : Pd.unit 3 = 86400 := rfl
    obtain ⟨r0, r1, r2, r3, r4, r5, r6⟩ := Pd.idx_rng hc f0 i1 i2
    have hf : f = 0 ∨ f = 1 ∨ f = 2 ∨ f = 3 ∨ f = 4 ∨ f = 5 ∨ f = 6 := by omega
    rcases hf with rfl | rfl | rfl | rfl | rfl | rfl | rfl
    ·obtain ⟨a1, a2⟩ := r0 rfl
     clear r0 r1 r2 r3 r4 r5 r6
     go_enter Tryz.func68, Tryz.ntmps68
     go_wp2_with (first | (go_at_call 97; refine (counts_any _ _ _).mono ?_; rintro e w' ⟨rfl, rfl⟩) | (go_at_call 61; refine (index_any _ _ _ _ HT.out f0).mono ?_; rintro e w' ⟨rfl, rfl⟩) | (go_at_call 90; refine (last_any _ _ _ HT.out f0).mono ?_; rintro e w' ⟨rfl, rfl⟩) | (go_at_call 98; refine (unit_any _ _ (by omega) (by omega)).mono ?_; rintro e w' ⟨rfl, rfl⟩))
     go_ret2
     exact ⟨ret_ii (by rw [HF.out]; simp [Pd.unit]) (by rw [HL.out]; simp [Pd.unit]), rfl⟩
    ·obtain ⟨a1, a2⟩ := r1 rfl
     clear r0 r1 r2 r3 r4 r5 r6
     go_enter Tryz.func68, Tryz.ntmps68
     go_wp2_with (first | (go_at_call 97; refine (counts_any _ _ _).mono ?_; rintro e w' ⟨rfl, rfl⟩) | (go_at_call 61; refine (index_any _ _ _ _ HT.out f0).mono ?_; rintro e w' ⟨rfl, rfl⟩) | (go_at_call 90; refine (last_any _ _ _ HT.out f0).mono ?_; rintro e w' ⟨rfl, rfl⟩) | (go_at_call 98; refine (unit_any _ _ (by omega) (by omega)).mono ?_; rintro e w' ⟨rfl, rfl⟩))
     go_ret2
     exact ⟨ret_ii (by rw [HF.out]; simp [Pd.unit]) (by rw [HL.out]; simp [Pd.unit]), rfl⟩
    ·obtain ⟨a1, a2⟩ := r2 rfl
     clear r0 r1 r2 r3 r4 r5 r6
     go_enter Tryz.func68, Tryz.ntmps68
     go_wp2_with (first | (go_at_call 97; refine (counts_any _ _ _).mono ?_; rintro e w' ⟨rfl, rfl⟩) | (go_at_call 61; refine (index_any _ _ _ _ HT.out f0).mono ?_; rintro e w' ⟨rfl, rfl⟩) | (go_at_call 90; refine (last_any _ _ _ HT.out f0).mono ?_; rintro e w' ⟨rfl, rfl⟩) | (go_at_call 98; refine (unit_any _ _ (by omega) (by omega)).mono ?_; rintro e w' ⟨rfl, rfl⟩))
     go_ret2
     exact ⟨ret_ii (by rw [HF.out]; simp [Pd.unit]) (by rw [HL.out]; simp [Pd.unit]), rfl⟩
    ·obtain ⟨a1, a2⟩ := r3 rfl
     clear r0 r1 r2 r3 r4 r5 r6
     go_enter Tryz.func68, Tryz.ntmps68
     go_wp2_with (first | (go_at_call 97; refine (counts_any _ _ _).mono ?_; rintro e w' ⟨rfl, rfl⟩) | (go_at_call 61; refine (index_any _ _ _ _ HT.out f0).mono ?_; rintro e w' ⟨rfl, rfl⟩) | (go_at_call 90; refine (last_any _ _ _ HT.out f0).mono ?_; rintro e w' ⟨rfl, rfl⟩) | (go_at_call 98; refine (unit_any _ _ (by omega) (by omega)).mono ?_; rintro e w' ⟨rfl, rfl⟩))
     go_ret2
     exact ⟨ret_ii (by rw [HF.out]; simp [Pd.unit]) (by rw [HL.out]; simp [Pd.unit]), rfl⟩
    ·obtain ⟨a1, a2⟩ := r4 rfl
     clear r0 r1 r2 r3 r4 r5 r6
     go_enter Tryz.func68, Tryz.ntmps68
     go_wp2_with (first | (go_at_call 97; refine (counts_any _ _ _).mono ?_; rintro e w' ⟨rfl, rfl⟩) | (go_at_call 61; refine (index_any _ _ _ _ HT.out f0).mono ?_; rintro e w' ⟨rfl, rfl⟩) | (go_at_call 90; refine (last_any _ _ _ HT.out f0).mono ?_; rintro e w' ⟨rfl, rfl⟩) | (go_at_call 106; refine (clip_any _ _ _ (by omega) (by omega) (by omega) (by omega)).mono ?_; rintro e w' ⟨rfl, rfl⟩))
     go_ret2
     exact ⟨ret_ii (by rw [HF.out]; simp [Pd.day0]) (by rw [HL.out]; simp [Pd.day1]), rfl⟩
    ·obtain ⟨a1, a2⟩ := r5 rfl
     clear r0 r1 r2 r3 r4 r5 r6
     have lg := Civ.len_ge (y := i / 12) (m := i % 12 + 1) (by omega) (by omega) (by omega) (by omega)
     have lb := Civ.len_bd (i / 12) (i % 12 + 1)
     have hdo := Civ.date_of (y := i / 12) (m := i % 12 + 1) (d := 1) (by omega) (by omega) (by omega) (by omega) (by omega) (by omega)
     have hdd := (Civ.day_of (y := i / 12) (m := i % 12 + 1) (d := 1) (by omega) (by omega)).1
     rw [← hdd] at hdo
     obtain ⟨q1, q2, _, _⟩ := hdo
     clear hdd
     go_enter Tryz.func68, Tryz.ntmps68
     go_wp2_with (first | (go_at_call 97; refine (counts_any _ _ _).mono ?_; rintro e w' ⟨rfl, rfl⟩) | (go_at_call 61; refine (index_any _ _ _ _ HT.out f0).mono ?_; rintro e w' ⟨rfl, rfl⟩) | (go_at_call 90; refine (last_any _ _ _ HT.out f0).mono ?_; rintro e w' ⟨rfl, rfl⟩) | (go_at_call 107; refine (days_any _ _).mono ?_; rintro e w' ⟨rfl, rfl⟩) | (go_at_call 108; refine (len_any _ _ _ HT.out).mono ?_; rintro e w' ⟨rfl, rfl⟩) | (go_at_call 109; refine (day_any _ _ _ _ HT.out).mono ?_; rintro e w' ⟨rfl, rfl⟩) | (go_at_call 106; refine (clip_any _ _ _ (by omega) (by omega) (by omega) (by omega)).mono ?_; rintro e w' ⟨rfl, rfl⟩))
     go_ret2
     exact ⟨ret_ii (by rw [HF.out]; simp [Pd.day0]) (by rw [HL.out]; simp [Pd.day1]), rfl⟩
    ·obtain ⟨a1, a2⟩ := r6 rfl
     clear r0 r1 r2 r3 r4 r5 r6
     have lg := Civ.len_ge (y := i) (m := 1) (by omega) (by omega) (by omega) (by omega)
     have hdo := Civ.date_of (y := i) (m := 1) (d := 1) (by omega) (by omega) (by omega) (by omega) (by omega) (by omega)
     have hdd := (Civ.day_of (y := i) (m := 1) (d := 1) (by omega) (by omega)).1
     rw [← hdd] at hdo
     obtain ⟨q1, q2, _, _⟩ := hdo
     have hys := Civ.days_eq (y := i) (by omega) (by omega)
     have ho := Civ.one_bd i
     have hyb : 365 ≤ Civ.days i ∧ Civ.days i ≤ 366 := by omega
     clear hdd hys
     go_enter Tryz.func68, Tryz.ntmps68
     go_wp2_with (first | (go_at_call 97; refine (counts_any _ _ _).mono ?_; rintro e w' ⟨rfl, rfl⟩) | (go_at_call 61; refine (index_any _ _ _ _ HT.out f0).mono ?_; rintro e w' ⟨rfl, rfl⟩) | (go_at_call 90; refine (last_any _ _ _ HT.out f0).mono ?_; rintro e w' ⟨rfl, rfl⟩) | (go_at_call 107; refine (days_any _ _).mono ?_; rintro e w' ⟨rfl, rfl⟩) | (go_at_call 108; refine (len_any _ _ _ HT.out).mono ?_; rintro e w' ⟨rfl, rfl⟩) | (go_at_call 109; refine (day_any _ _ _ _ HT.out).mono ?_; rintro e w' ⟨rfl, rfl⟩) | (go_at_call 106; refine (clip_any _ _ _ (by omega) (by omega) (by omega) (by omega)).mono ?_; rintro e w' ⟨rfl, rfl⟩))
     go_ret2
     exact ⟨ret_ii (by rw [HF.out]; simp [Pd.day0]) (by rw [HL.out]; simp [Pd.day1]), rfl⟩
   ·go_enter Tryz.func68, Tryz.ntmps68
    go_wp2_with (first | (go_at_call 97; refine (counts_any _ _ _).mono ?_; rintro e w' ⟨rfl, rfl⟩) | (go_at_call 61; refine (index_any _ _ _ _ HT.out f0).mono ?_; rintro e w' ⟨rfl, rfl⟩) | (go_at_call 90; refine (last_any _ _ _ HT.out f0).mono ?_; rintro e w' ⟨rfl, rfl⟩))
    go_ret2
    exact ⟨ret_ii (by unfold Pd.frm; rw [if_neg (by omega)]) (by unfold Pd.to; rw [if_neg (by omega)]), rfl⟩
  ·go_enter Tryz.func68, Tryz.ntmps68
   go_wp2_with (first | (go_at_call 97; refine (counts_any _ _ _).mono ?_; rintro e w' ⟨rfl, rfl⟩) | (go_at_call 61; refine (index_any _ _ _ _ HT.out f0).mono ?_; rintro e w' ⟨rfl, rfl⟩))
   go_ret2
   exact ⟨ret_ii (by unfold Pd.frm; rw [if_neg (by omega)]) (by unfold Pd.to; rw [if_neg (by omega)]), rfl⟩
 ·go_enter Tryz.func68, Tryz.ntmps68
  go_wp2_with (first | (go_at_call 97; refine (counts_any _ _ _).mono ?_; rintro e w' ⟨rfl, rfl⟩))
  go_ret2
  exact ⟨ret_ii (by unfold Pd.frm; rw [if_neg (fun h => hc h.1)]) (by unfold Pd.to; rw [if_neg (fun h => hc h.1)]), rfl⟩
end Go.Proofs.YtkbohijlhhpfbaaGreatDoor.Cw
/- The walk through period.Step. -/
namespace Go.Proofs.YtkbohijlhhpfbaaGreatDoor.Cw
open Go.RowKit
theorem idx2_0 (x y : Int) (w : World) : (Instr.index 191 (.agg #[.int .i64 x, .int .i64 y]) (.int .i64 0)).run Tryz.prog w = .ok (.int .i64 x) w := by kernel_rfl
theorem idx2_1 (x y : Int) (w : World) : (Instr.index 191 (.agg #[.int .i64 x, .int .i64 y]) (.int .i64 1)).run Tryz.prog w = .ok (.int .i64 y) w := by kernel_rfl
attribute [local go_sem] idx2_0 idx2_1
set_option maxHeartbeats 2000000 in
theorem step_any (a k b : Int) (w : World) : Calls Tryz.prog 135 #[.int .i64 a, .int .i64 k, .int .i64 b] w fun e w' => e = .returned (.int .i64 (Pd.step a k b)) ∧ w = w' := by
 by_cases k1 : 1 ≤ k
 ·by_cases k2 : k ≤ 1000
  ·by_cases a1 : 0 ≤ a
   ·by_cases a2 : a ≤ 315537897600
    ·by_cases b1 : 0 ≤ b
     ·by_cases b2 : b ≤ 315537897600
      ·by_cases hl : a < b
       ·have r1 : 0 ≤ (b - a) % k := Int.emod_nonneg _ (by omega)
        have r2 : (b - a) % k < k := Int.emod_lt_of_pos _ (by omega)
        have hs : Pd.step a k b = a + (b - a + k - 1) / k * k := by unfold Pd.step; rw [if_neg (by omega), if_neg (by omega)]
        have Hs := Lib.hid hs
        clear hs
        by_cases hr : 0 < (b - a) % k
        ·go_enter Tryz.func135, Tryz.ntmps135
         go_wp2
         go_rounds 3
         go_ret
         exact ⟨ret_i (by rw [Hs.out, Pd.up_pos (by omega) hr]), rfl⟩
        ·have hz := Lib.hid (show (b - a) % k = 0 by omega)
         go_enter Tryz.func135, Tryz.ntmps135
         go_wp2
         go_rounds 3
         go_ret
         exact ⟨ret_i (by rw [Hs.out, Pd.up_zero (by omega) hz.out]), rfl⟩
       ·go_enter Tryz.func135, Tryz.ntmps135
        go_wp2
        go_rounds 3
        all_goals
         go_ret
         exact ⟨ret_i (by unfold Pd.step; rw [if_neg (by omega), if_pos (by omega)]), rfl⟩
      ·go_enter Tryz.func135, Tryz.ntmps135
       go_wp2
       go_rounds 3
       all_goals
        go_ret
        exact ⟨ret_i (by unfold Pd.step; rw [if_pos (by omega)]), rfl⟩
     ·go_enter Tryz.func135, Tryz.ntmps135
      go_wp2
      go_rounds 3
      all_goals
       go_ret
       exact ⟨ret_i (by unfold Pd.step; rw [if_pos (by omega)]), rfl⟩
    ·go_enter Tryz.func135, Tryz.ntmps135
     go_wp2
     go_rounds 3
     all_goals
      go_ret
      exact ⟨ret_i (by unfold Pd.step; rw [if_pos (by omega)]), rfl⟩
   ·go_enter Tryz.func135, Tryz.ntmps135
    go_wp2
    go_rounds 3
    all_goals
     go_ret
     exact ⟨ret_i (by unfold Pd.step; rw [if_pos (by omega)]), rfl⟩
  ·go_enter Tryz.func135, Tryz.ntmps135
   go_wp2
   go_ret
   exact ⟨ret_i (by unfold Pd.step; rw [if_pos (by omega)]), rfl⟩
 ·go_enter Tryz.func135, Tryz.ntmps135
  go_wp2
  go_ret
  exact ⟨ret_i (by unfold Pd.step; rw [if_pos (by omega)]), rfl⟩
end Go.Proofs.YtkbohijlhhpfbaaGreatDoor.Cw
/- The walks through errandref22. -/
namespace Go.Proofs.YtkbohijlhhpfbaaGreatDoor.Cw
open Go.RowKit
theorem rMay_any (f x : Int) (w : World) : Calls Tryz.prog 76 #[.int .u8 f, .int .i64 x] w fun e w' => e = .returned (.bool (Pd.counts f x)) ∧ w = w' := by
 by_cases h1 : f ≤ 6
 ·by_cases h2 : 0 ≤ x
  ·by_cases h3 : x ≤ 6
   ·go_enter Tryz.func76, Tryz.ntmps76
    go_wp2
    go_ret
    exact ⟨ret_b (by simp [Pd.counts]; omega), rfl⟩
   ·go_enter Tryz.func76, Tryz.ntmps76
    go_wp2
    go_ret
    exact ⟨ret_b (by simp [Pd.counts]; omega), rfl⟩
  ·go_enter Tryz.func76, Tryz.ntmps76
   go_wp2
   go_ret
   exact ⟨ret_b (by simp [Pd.counts]; omega), rfl⟩
 ·go_enter Tryz.func76, Tryz.ntmps76
  go_wp2
  go_ret
  exact ⟨ret_b (by simp [Pd.counts]; omega), rfl⟩
theorem rClip_any (a b : Int) (w : World) (h1 : -100000 ≤ a) (h2 : a ≤ 10000000) (h3 : -100000 ≤ b) (h4 : b ≤ 10000000) : Calls Tryz.prog 80 #[.int .i64 a, .int .i64 b] w fun e w' => e = .returned (.tuple #[.int .i64 (Pd.lo a), .int .i64 (Pd.hi b)]) ∧ w = w' := by
 by_cases h5 : 0 ≤ a <;> by_cases h6 : b ≤ 3652059
 all_goals
  go_enter Tryz.func80, Tryz.ntmps80
  go_wp2
  all_goals
   go_ret2
   exact ⟨ret_ii (by unfold Pd.lo; split <;> omega) (by unfold Pd.hi; split <;> omega), rfl⟩
theorem rUnits_any (i n : Int) (w : World) (h1 : 0 ≤ i * n) (h2 : i * n ≤ 1000000000000) (h3 : 0 ≤ n) (h4 : n ≤ 100000) : Calls Tryz.prog 79 #[.int .i64 i, .int .i64 n] w fun e w' => e = .returned (.tuple #[.int .i64 (i * n), .int .i64 (i * n + n)]) ∧ w = w' := by
 go_enter Tryz.func79, Tryz.ntmps79
 go_wp2
 go_ret2
 exact ⟨rfl, rfl⟩
set_option maxHeartbeats 1000000 in
theorem rIndex_any (f x s : Int) (w : World) (f0 : 0 ≤ f) : Calls Tryz.prog 77 #[.int .u8 f, .int .i64 x, .int .i64 s] w fun e w' => e = .returned (.int .i64 (Pd.index f x s)) ∧ w = w' := by
 by_cases hc : Pd.counts f x = true
 ·obtain ⟨c1, c2, c3⟩ := (Pd.counts_iff f x).1 hc
  by_cases s1 : 0 ≤ s
  ·by_cases s2 : s ≤ 315537897599
   ·have hi : Pd.index f x s = Pd.num f x s := by unfold Pd.index; rw [if_pos ⟨hc, s1, s2⟩]
    have Hi := Lib.hid hi
    clear hi
    have d1 : 0 ≤ s / 86400 := by omega
    have d2 : s / 86400 ≤ 3652058 := by omega
    have hx := (Wk.isStart_iff x).2 ⟨c2, by omega⟩
    have hb : Wk.begin (s / 86400) x = s / 86400 - Wk.back (s / 86400) x := by unfold Wk.begin; rw [if_pos ⟨hx, d1, d2⟩]
    have bb := Wk.back_bd (s / 86400) x
    have ht := Lib.hid (show (s / 86400 - Wk.back (s / 86400) x + 7 - x) / 7 = (s / 86400 - Wk.back (s / 86400) x - x) / 7 + 1 by omega)
    have h0 : (s / 86400 - Wk.back (s / 86400) x - x) % 7 = 0 := by unfold Wk.back; omega
    have ht2 := tdiv7 (a := s / 86400 - Wk.back (s / 86400) x + 7 - x) (by omega)
    clear h0
    obtain ⟨y1, y2, m1, m2, _, _, _⟩ := Civ.date_spec d1 d2
    have hf : f = 0 ∨ f = 1 ∨ f = 2 ∨ f = 3 ∨ f = 4 ∨ f = 5 ∨ f = 6 := by omega
    rcases hf with rfl | rfl | rfl | rfl | rfl | rfl | rfl
    all_goals
     go_enter Tryz.func77, Tryz.ntmps77
     go_wp2_with (first | (go_at_call 76; refine (rMay_any _ _ _).mono ?_; rintro e w' ⟨rfl, rfl⟩) | (go_at_call 115; refine (rBegin_any _ _ _).mono ?_; rintro e w' ⟨rfl, rfl⟩) | (go_at_call 114; refine (rDate_any _ _).mono ?_; rintro e w' ⟨rfl, rfl⟩))
     go_ret
     exact ⟨ret_i (by rw [Hi.out]; simp [Pd.num, Pd.unit] <;> first | exact ht.out | omega), rfl⟩
   ·go_enter Tryz.func77, Tryz.ntmps77
    go_wp2_with (first | (go_at_call 76; refine (rMay_any _ _ _).mono ?_; rintro e w' ⟨rfl, rfl⟩))
    go_ret
    exact ⟨ret_i (by unfold Pd.index; rw [if_neg (by omega)]), rfl⟩
  ·go_enter Tryz.func77, Tryz.ntmps77
   go_wp2_with (first | (go_at_call 76; refine (rMay_any _ _ _).mono ?_; rintro e w' ⟨rfl, rfl⟩))
   go_ret
   exact ⟨ret_i (by unfold Pd.index; rw [if_neg (by omega)]), rfl⟩
 ·go_enter Tryz.func77, Tryz.ntmps77
  go_wp2_with (first | (go_at_call 76; refine (rMay_any _ _ _).mono ?_; rintro e w' ⟨rfl, rfl⟩))
  go_ret
  exact ⟨ret_i (by unfold Pd.index; rw [if_neg (fun h => hc h.1)]), rfl⟩
theorem rLast_any (f x : Int) (w : World) (f0 : 0 ≤ f) : Calls Tryz.prog 78 #[.int .u8 f, .int .i64 x] w fun e w' => e = .returned (.int .i64 (Pd.last f x)) ∧ w = w' := by
 go_enter Tryz.func78, Tryz.ntmps78
 go_wp2_with (first | (go_at_call 77; refine (rIndex_any _ _ _ _ f0).mono ?_; rintro e w' ⟨rfl, rfl⟩))
 go_ret
 exact ⟨rfl, rfl⟩
set_option maxHeartbeats 2000000 in
theorem rStretch_any (f x i : Int) (w : World) (f0 : 0 ≤ f) : Calls Tryz.prog 38 #[.int .u8 f, .int .i64 x, .int .i64 i] w fun e w' => e = .returned (.tuple #[.int .i64 (Pd.frm f x i), .int .i64 (Pd.to f x i)]) ∧ w = w' := by
 by_cases hc : Pd.counts f x = true
 ·obtain ⟨c1, c2, c3⟩ := (Pd.counts_iff f x).1 hc
  by_cases i1 : Pd.index f x 0 ≤ i
  ·by_cases i2 : i ≤ Pd.last f x
   ·have hF : Pd.frm f x i = if f ≤ 3 then i * Pd.unit f else Pd.lo (Pd.day0 f x i) := by unfold Pd.frm; rw [if_pos ⟨hc, i1, i2⟩]
    have hL : Pd.to f x i = if f ≤ 3 then (i + 1) * Pd.unit f else Pd.hi (Pd.day1 f x i) := by unfold Pd.to; rw [if_pos ⟨hc, i1, i2⟩]
    have HF := Lib.hid hF
    have HL := Lib.hid hL
    clear hF hL
    obtain ⟨r0, r1, r2, r3, r4, r5, r6⟩ := Pd.idx_rng hc f0 i1 i2
    have hf : f = 0 ∨ f = 1 ∨ f = 2 ∨ f = 3 ∨ f = 4 ∨ f = 5 ∨ f = 6 := by omega
    rcases hf with rfl | rfl | rfl | rfl | rfl | rfl | rfl
    ·obtain ⟨a1, a2⟩ := r0 rfl
     clear r0 r1 r2 r3 r4 r5 r6
     go_enter Tryz.func38, Tryz.ntmps38
     go_wp2_with (first | (go_at_call 76; refine (rMay_any _ _ _).mono ?_; rintro e w' ⟨rfl, rfl⟩) | (go_at_call 77; refine (rIndex_any _ _ _ _ f0).mono ?_; rintro e w' ⟨rfl, rfl⟩) | (go_at_call 78; refine (rLast_any _ _ _ f0).mono ?_; rintro e w' ⟨rfl, rfl⟩) | (go_at_call 79; refine (rUnits_any _ _ _ (by omega) (by omega) (by omega) (by omega)).mono ?_; rintro e w' ⟨rfl, rfl⟩))
     go_ret2
     exact ⟨ret_ii (by rw [HF.out]; simp [Pd.unit]) (by rw [HL.out]; simp [Pd.unit] <;> omega), rfl⟩
    ·obtain ⟨a1, a2⟩ := r1 rfl
     clear r0 r1 r2 r3 r4 r5 r6
     go_enter Tryz.func38, Tryz.ntmps38
     go_wp2_with (first | (go_at_call 76; refine (rMay_any _ _ _).mono ?_; rintro e w' ⟨rfl, rfl⟩) | (go_at_call 77; refine (rIndex_any _ _ _ _ f0).mono ?_; rintro e w' ⟨rfl, rfl⟩) | (go_at_call 78; refine (rLast_any _ _ _ f0).mono ?_; rintro e w' ⟨rfl, rfl⟩) | (go_at_call 79; refine (rUnits_any _ _ _ (by omega) (by omega) (by omega) (by omega)).mono ?_; rintro e w' ⟨rfl, rfl⟩))
     go_ret2
     exact ⟨ret_ii (by rw [HF.out]; simp [Pd.unit]) (by rw [HL.out]; simp [Pd.unit] <;> omega), rfl⟩
    ·obtain ⟨a1, a2⟩ := r2 rfl
     clear r0 r1 r2 r3 r4 r5 r6
     go_enter Tryz.func38, Tryz.ntmps38
     go_wp2_with (first | (go_at_call 76; refine (rMay_any _ _ _).mono ?_; rintro e w' ⟨rfl, rfl⟩) | (go_at_call 77; refine (rIndex_any _ _ _ _ f0).mono ?_; rintro e w' ⟨rfl, rfl⟩) | (go_at_call 78; refine (rLast_any _ _ _ f0).mono ?_; rintro e w' ⟨rfl, rfl⟩) | (go_at_call 79; refine (rUnits_any _ _ _ (by omega) (by omega) (by omega) (by omega)).mono ?_; rintro e w' ⟨rfl, rfl⟩))
     go_ret2
     exact ⟨ret_ii (by rw [HF.out]; simp [Pd.unit]) (by rw [HL.out]; simp [Pd.unit] <;> omega), rfl⟩
    ·obtain ⟨a1, a2⟩ := r3 rfl
     clear r0 r1 r2 r3 r4 r5 r6
     go_enter Tryz.func38, Tryz.ntmps38
     go_wp2_with (first | (go_at_call 76; refine (rMay_any _ _ _).mono ?_; rintro e w' ⟨rfl, rfl⟩) | (go_at_call 77; refine (rIndex_any _ _ _ _ f0).mono ?_; rintro e w' ⟨rfl, rfl⟩) | (go_at_call 78; refine (rLast_any _ _ _ f0).mono ?_; rintro e w' ⟨rfl, rfl⟩) | (go_at_call 79; refine (rUnits_any _ _ _ (by omega) (by omega) (by omega) (by omega)).mono ?_; rintro e w' ⟨rfl, rfl⟩))
     go_ret2
     exact ⟨ret_ii (by rw [HF.out]; simp [Pd.unit]) (by rw [HL.out]; simp [Pd.unit] <;> omega), rfl⟩
    ·obtain ⟨a1, a2⟩ := r4 rfl
     clear r0 r1 r2 r3 r4 r5 r6
     go_enter Tryz.func38, Tryz.ntmps38
     go_wp2_with (first | (go_at_call 76; refine (rMay_any _ _ _).mono ?_; rintro e w' ⟨rfl, rfl⟩) | (go_at_call 77; refine (rIndex_any _ _ _ _ f0).mono ?_; rintro e w' ⟨rfl, rfl⟩) | (go_at_call 78; refine (rLast_any _ _ _ f0).mono ?_; rintro e w' ⟨rfl, rfl⟩) | (go_at_call 80; refine (rClip_any _ _ _ (by omega) (by omega) (by omega) (by omega)).mono ?_; rintro e w' ⟨rfl, rfl⟩))
     go_ret2
     exact ⟨ret_ii (by rw [HF.out]; simp [Pd.day0]; congr 1; omega) (by rw [HL.out]; simp [Pd.day1]; congr 1; omega), rfl⟩
    ·obtain ⟨a1, a2⟩ := r5 rfl
     clear r0 r1 r2 r3 r4 r5 r6
     have lg := Civ.len_ge (y := i / 12) (m := i % 12 + 1) (by omega) (by omega) (by omega) (by omega)
     have lb := Civ.len_bd (i / 12) (i % 12 + 1)
     have hdo := Civ.date_of (y := i / 12) (m := i % 12 + 1) (d := 1) (by omega) (by omega) (by omega) (by omega) (by omega) (by omega)
     have hdd := (Civ.day_of (y := i / 12) (m := i % 12 + 1) (d := 1) (by omega) (by omega)).1
     rw [← hdd] at hdo
     obtain ⟨q1, q2, _, _⟩ := hdo
     clear hdd
     go_enter Tryz.func38, Tryz.ntmps38
     go_wp2_with (first | (go_at_call 76; refine (rMay_any _ _ _).mono ?_; rintro e w' ⟨rfl, rfl⟩) | (go_at_call 77; refine (rIndex_any _ _ _ _ f0).mono ?_; rintro e w' ⟨rfl, rfl⟩) | (go_at_call 78; refine (rLast_any _ _ _ f0).mono ?_; rintro e w' ⟨rfl, rfl⟩) | (go_at_call 82; refine (rLen_any _ _ _).mono ?_; rintro e w' ⟨rfl, rfl⟩) | (go_at_call 81; refine (rDay_any _ _ _ _).mono ?_; rintro e w' ⟨rfl, rfl⟩) | (go_at_call 80; refine (rClip_any _ _ _ (by omega) (by omega) (by omega) (by omega)).mono ?_; rintro e w' ⟨rfl, rfl⟩))
     go_ret2
     exact ⟨ret_ii (by rw [HF.out]; simp [Pd.day0]) (by rw [HL.out]; simp [Pd.day1]), rfl⟩
    ·obtain ⟨a1, a2⟩ := r6 rfl
     clear r0 r1 r2 r3 r4 r5 r6
     have lg := Civ.len_ge (y := i) (m := 1) (by omega) (by omega) (by omega) (by omega)
     have hdo := Civ.date_of (y := i) (m := 1) (d := 1) (by omega) (by omega) (by omega) (by omega) (by omega) (by omega)
     have hdd := (Civ.day_of (y := i) (m := 1) (d := 1) (by omega) (by omega)).1
     rw [← hdd] at hdo
     obtain ⟨q1, q2, _, _⟩ := hdo
     have hys := Civ.days_eq (y := i) (by omega) (by omega)
     have ho := Civ.one_bd i
     have hyb : 365 ≤ Civ.days i ∧ Civ.days i ≤ 366 := by omega
     clear hdd hys
     go_enter Tryz.func38, Tryz.ntmps38
     go_wp2_with (first | (go_at_call 76; refine (rMay_any _ _ _).mono ?_; rintro e w' ⟨rfl, rfl⟩) | (go_at_call 77; refine (rIndex_any _ _ _ _ f0).mono ?_; rintro e w' ⟨rfl, rfl⟩) | (go_at_call 78; refine (rLast_any _ _ _ f0).mono ?_; rintro e w' ⟨rfl, rfl⟩) | (go_at_call 83; refine (rDays_any _ _).mono ?_; rintro e w' ⟨rfl, rfl⟩) | (go_at_call 81; refine (rDay_any _ _ _ _).mono ?_; rintro e w' ⟨rfl, rfl⟩) | (go_at_call 80; refine (rClip_any _ _ _ (by omega) (by omega) (by omega) (by omega)).mono ?_; rintro e w' ⟨rfl, rfl⟩))
     go_ret2
     exact ⟨ret_ii (by rw [HF.out]; simp [Pd.day0]) (by rw [HL.out]; simp [Pd.day1]), rfl⟩
   ·go_enter Tryz.func38, Tryz.ntmps38
    go_wp2_with (first | (go_at_call 76; refine (rMay_any _ _ _).mono ?_; rintro e w' ⟨rfl, rfl⟩) | (go_at_call 77; refine (rIndex_any _ _ _ _ f0).mono ?_; rintro e w' ⟨rfl, rfl⟩) | (go_at_call 78; refine (rLast_any _ _ _ f0).mono ?_; rintro e w' ⟨rfl, rfl⟩))
    go_ret2
    exact ⟨ret_ii (by unfold Pd.frm; rw [if_neg (by omega)]) (by unfold Pd.to; rw [if_neg (by omega)]), rfl⟩
  ·go_enter Tryz.func38, Tryz.ntmps38
   go_wp2_with (first | (go_at_call 76; refine (rMay_any _ _ _).mono ?_; rintro e w' ⟨rfl, rfl⟩) | (go_at_call 77; refine (rIndex_any _ _ _ _ f0).mono ?_; rintro e w' ⟨rfl, rfl⟩))
   go_ret2
   exact ⟨ret_ii (by unfold Pd.frm; rw [if_neg (by omega)]) (by unfold Pd.to; rw [if_neg (by omega)]), rfl⟩
 ·go_enter Tryz.func38, Tryz.ntmps38
  go_wp2_with (first | (go_at_call 76; refine (rMay_any _ _ _).mono ?_; rintro e w' ⟨rfl, rfl⟩))
  go_ret2
  exact ⟨ret_ii (by unfold Pd.frm; rw [if_neg (fun h => hc h.1)]) (by unfold Pd.to; rw [if_neg (fun h => hc h.1)]), rfl⟩
set_option maxHeartbeats 1000000 in
theorem rStep_any (a k b : Int) (w : World) : Calls Tryz.prog 95 #[.int .i64 a, .int .i64 k, .int .i64 b] w fun e w' => e = .returned (.int .i64 (Pd.step a k b)) ∧ w = w' := by
 by_cases hg : k < 1 ∨ 1000 < k ∨ a < 0 ∨ 315537897600 < a ∨ b < 0 ∨ 315537897600 < b
 ·have hs := Lib.hid (show Pd.step a k b = -1 by unfold Pd.step; rw [if_pos hg])
  go_enter Tryz.func95, Tryz.ntmps95
  go_wp2
  all_goals
   go_ret
   exact ⟨ret_i hs.out.symm, rfl⟩
 ·have g1 : 1 ≤ k := by omega
  have g2 : k ≤ 1000 := by omega
  have g3 : 0 ≤ a := by omega
  have g4 : a ≤ 315537897600 := by omega
  have g5 : 0 ≤ b := by omega
  have g6 : b ≤ 315537897600 := by omega
  by_cases hl : b ≤ a
  ·have hs := Lib.hid (show Pd.step a k b = a by unfold Pd.step; rw [if_neg hg, if_pos hl])
   clear hg
   go_enter Tryz.func95, Tryz.ntmps95
   go_wp2
   go_ret
   exact ⟨ret_i hs.out.symm, rfl⟩
  ·have hs := Lib.hid (show Pd.step a k b = a + (b - a + k - 1) / k * k by unfold Pd.step; rw [if_neg hg, if_neg hl])
   have q0 := Pd.up_bd (p := b - a) (k := k) (by omega) (by omega)
   clear hg
   go_enter Tryz.func95, Tryz.ntmps95
   go_wp2
   go_ret
   exact ⟨ret_i hs.out.symm, rfl⟩
end Go.Proofs.YtkbohijlhhpfbaaGreatDoor.Cw
