/- The walks through week. -/
import Derived.Test.YtkbohijlhhpfbaaGreatDoorCwb
import Derived.Test.YtkbohijlhhpfbaaGreatDoorXa
namespace Go.Proofs.YtkbohijlhhpfbaaGreatDoor.Cw
open Go.RowKit
theorem isStart_any (x : Int) (w : World) : Calls Tryz.prog 138 #[.int .i64 x] w fun e w' => e = .returned (.bool (Wk.isStart x)) ∧ w = w' := by
  by_cases h1 : 0 ≤ x <;> by_cases h2 : x < 7
  all_goals
    go_enter Tryz.func138, Tryz.ntmps138
    go_wp2
    go_ret
    exact ⟨ret_b (by simp [Wk.isStart]; omega), rfl⟩
set_option maxHeartbeats 400000 in
theorem back_any (n x : Int) (w : World) (h1 : 0 ≤ n) (h2 : n ≤ 10000000) (h3 : 0 ≤ x) (h4 : x < 7) : Calls Tryz.prog 140 #[.int .i64 n, .int .i64 x] w fun e w' => e = .returned (.int .i64 (Wk.back n x)) ∧ w = w' := by
  have hb := Wk.back_bd n x
  go_enter Tryz.func140, Tryz.ntmps140
  go_wp2
  go_loop [6] (fun v => ∃ k : Int, 0 ≤ k ∧ k ≤ Wk.back n x ∧ v = .int .i64 k) (fun v => (Wk.back n x - intOf v).toNat)
  case atStart => exact ⟨0, by omega, by omega, rfl⟩
  case round =>
    obtain ⟨k, k1, k2, rfl⟩ := hrel
    by_cases hlt : k < Wk.back n x
    · have hne : ((n - k + 49 - x) % 7 == 0) = false := by rw [beq_eq_false_iff_ne]; unfold Wk.back at hlt; omega
      go_wp2
      go_round
      case rel => exact ⟨k + 1, by omega, by omega, rfl⟩
      case measure => simp [intOf]; omega
    · have hke : k = Wk.back n x := by omega
      have heq : ((n - k + 49 - x) % 7 == 0) = true := by rw [beq_iff_eq, hke]; unfold Wk.back; omega
      have Hk := Lib.hid hke
      clear hke hlt
      go_wp2
      go_ret
      exact ⟨ret_i Hk.out, rfl⟩
set_option maxHeartbeats 400000 in
theorem fourth_any (y : Int) (w : World) (h1 : 0 ≤ y) (h2 : y ≤ 10002) : Calls Tryz.prog 184 #[.int .i64 y] w fun e w' => e = .returned (.int .i64 (Civ.ahead y + 3)) ∧ w = w' := by
  go_enter Tryz.func184, Tryz.ntmps184
  go_wp2
  go_ret
  exact ⟨ret_i (by unfold Civ.ahead; omega), rfl⟩
set_option maxHeartbeats 400000 in
theorem begin_any (n x : Int) (w : World) : Calls Tryz.prog 99 #[.int .i64 n, .int .i64 x] w fun e w' => e = .returned (.int .i64 (Wk.begin n x)) ∧ w = w' := by
  cases hx : Wk.isStart x
  · go_enter Tryz.func99, Tryz.ntmps99
    go_wp2_with (first | (go_at_call 138; refine (isStart_any _ _).mono ?_; rintro e w' ⟨rfl, rfl⟩))
    go_ret
    exact ⟨ret_i (by simp [Wk.begin, hx]), rfl⟩
  · obtain ⟨x1, x2⟩ := (Wk.isStart_iff x).1 hx
    by_cases hn : 0 ≤ n ∧ n ≤ 3652058
    · have hw := Civ.weekday_of hn.1 hn.2
      obtain ⟨v, hv⟩ : ∃ v : Int, v = n % 7 := ⟨_, rfl⟩
      rw [← hv] at hw
      have v1 : 0 ≤ v := by omega
      clear hv
      have hb := Wk.back_bd n x
      obtain ⟨n1, n2⟩ := hn
      go_enter Tryz.func99, Tryz.ntmps99
      go_wp2_with (first | (go_at_call 138; refine (isStart_any _ _).mono ?_; rintro e w' ⟨rfl, rfl⟩) | (go_at_call 139; refine (weekday_any _ _).mono ?_; rintro e w' ⟨rfl, rfl⟩) | (go_at_call 140; refine (back_any _ _ _ (by omega) (by omega) (by omega) (by omega)).mono ?_; rintro e w' ⟨rfl, rfl⟩))
      go_ret
      exact ⟨ret_i (by unfold Wk.begin; rw [if_pos ⟨hx, n1, n2⟩]), rfl⟩
    · have hw : Civ.weekday n = -1 := by
        unfold Civ.weekday; rw [if_neg]; rw [Civ.isDay_iff]; exact hn
      go_enter Tryz.func99, Tryz.ntmps99
      go_wp2_with (first | (go_at_call 138; refine (isStart_any _ _).mono ?_; rintro e w' ⟨rfl, rfl⟩) | (go_at_call 139; refine (weekday_any _ _).mono ?_; rintro e w' ⟨rfl, rfl⟩))
      go_ret
      exact ⟨ret_i (by unfold Wk.begin; rw [if_neg]; intro hh; exact hn hh.2), rfl⟩
set_option maxHeartbeats 400000 in
theorem first_any (y x : Int) (w : World) : Calls Tryz.prog 174 #[.int .i64 y, .int .i64 x] w fun e w' => e = .returned (.int .i64 (Wk.first y x)) ∧ w = w' := by
  cases hx : Wk.isStart x
  · go_enter Tryz.func174, Tryz.ntmps174
    go_wp2_with (first | (go_at_call 138; refine (isStart_any _ _).mono ?_; rintro e w' ⟨rfl, rfl⟩))
    go_ret
    exact ⟨ret_i (by simp [Wk.first, hx]), rfl⟩
  · obtain ⟨x1, x2⟩ := (Wk.isStart_iff x).1 hx
    by_cases h1 : 0 ≤ y
    · by_cases h2 : y ≤ 10001
      · have ha := Wk.ahead_rng h1 (by omega : y ≤ 10002)
        have hb := Wk.back_bd (Civ.ahead y + 3 + 146097) x
        go_enter Tryz.func174, Tryz.ntmps174
        go_wp2_with (first | (go_at_call 138; refine (isStart_any _ _).mono ?_; rintro e w' ⟨rfl, rfl⟩) | (go_at_call 184; refine (fourth_any _ _ (by omega) (by omega)).mono ?_; rintro e w' ⟨rfl, rfl⟩) | (go_at_call 140; refine (back_any _ _ _ (by omega) (by omega) (by omega) (by omega)).mono ?_; rintro e w' ⟨rfl, rfl⟩))
        go_ret
        exact ⟨ret_i (by unfold Wk.first; rw [if_pos ⟨hx, h1, h2⟩]; unfold Wk.fst Wk.back; omega), rfl⟩
      · go_enter Tryz.func174, Tryz.ntmps174
        go_wp2_with (first | (go_at_call 138; refine (isStart_any _ _).mono ?_; rintro e w' ⟨rfl, rfl⟩))
        go_ret
        exact ⟨ret_i (by unfold Wk.first; rw [if_neg]; intro hh; omega), rfl⟩
    · go_enter Tryz.func174, Tryz.ntmps174
      go_wp2_with (first | (go_at_call 138; refine (isStart_any _ _).mono ?_; rintro e w' ⟨rfl, rfl⟩))
      go_ret
      exact ⟨ret_i (by unfold Wk.first; rw [if_neg]; intro hh; omega), rfl⟩
theorem first_bd (y x : Int) : -400 ≤ Wk.first y x ∧ Wk.first y x ≤ 3652800 := by
  unfold Wk.first
  split
  · next h =>
    have ha := Wk.ahead_rng h.2.1 (by omega : y ≤ 10002)
    have := Wk.fst_bd y x
    omega
  · omega
set_option maxHeartbeats 400000 in
theorem weeks_any (y x : Int) (w : World) : Calls Tryz.prog 175 #[.int .i64 y, .int .i64 x] w fun e w' => e = .returned (.int .i64 (Wk.weeks y x)) ∧ w = w' := by
  cases hx : Wk.isStart x
  · go_enter Tryz.func175, Tryz.ntmps175
    go_wp2_with (first | (go_at_call 138; refine (isStart_any _ _).mono ?_; rintro e w' ⟨rfl, rfl⟩))
    go_ret
    exact ⟨ret_i (by simp [Wk.weeks, hx]), rfl⟩
  · by_cases h1 : 0 ≤ y
    · by_cases h2 : y ≤ 10000
      · have f1 := first_bd y x
        have f2 := first_bd (y + 1) x
        have e1 : Wk.first y x = Wk.fst y x := by unfold Wk.first; rw [if_pos ⟨hx, by omega, by omega⟩]
        have e2 : Wk.first (y + 1) x = Wk.fst (y + 1) x := by unfold Wk.first; rw [if_pos ⟨hx, by omega, by omega⟩]
        have hm := Wk.fst_mono (w := x) (y := y) (z := y + 1) (by omega)
        rw [e1] at f1
        rw [e2] at f2
        go_enter Tryz.func175, Tryz.ntmps175
        go_wp2_with (first | (go_at_call 138; refine (isStart_any _ _).mono ?_; rintro e w' ⟨rfl, rfl⟩) | (go_at_call 174; refine (first_any _ _ _).mono ?_; rintro e w' ⟨rfl, rfl⟩))
        go_ret
        exact ⟨ret_i (by unfold Wk.weeks; rw [if_pos ⟨hx, h1, h2⟩]), rfl⟩
      · go_enter Tryz.func175, Tryz.ntmps175
        go_wp2_with (first | (go_at_call 138; refine (isStart_any _ _).mono ?_; rintro e w' ⟨rfl, rfl⟩))
        go_ret
        exact ⟨ret_i (by unfold Wk.weeks; rw [if_neg]; intro hh; omega), rfl⟩
    · go_enter Tryz.func175, Tryz.ntmps175
      go_wp2_with (first | (go_at_call 138; refine (isStart_any _ _).mono ?_; rintro e w' ⟨rfl, rfl⟩))
      go_ret
      exact ⟨ret_i (by unfold Wk.weeks; rw [if_neg]; intro hh; omega), rfl⟩
set_option maxHeartbeats 400000 in
theorem number_any (n x : Int) (w : World) (hT : Tab w) : Calls Tryz.prog 151 #[.int .i64 n, .int .i64 x] w fun e w' => e = .returned (.tuple #[.int .i64 (Wk.numY n x), .int .i64 (Wk.numN n x)]) ∧ w = w' := by
  have HT := Lib.hid hT
  clear hT
  cases hx : Wk.isStart x
  · go_enter Tryz.func151, Tryz.ntmps151
    go_wp2_with (first | (go_at_call 138; refine (isStart_any _ _).mono ?_; rintro e w' ⟨rfl, rfl⟩))
    go_ret2
    exact ⟨ret_ii (by simp [Wk.numY, hx]) (by simp [Wk.numN, hx]), rfl⟩
  · obtain ⟨x1, x2⟩ := (Wk.isStart_iff x).1 hx
    by_cases hn : 0 ≤ n ∧ n ≤ 3652058
    · have hw := Civ.weekday_of hn.1 hn.2
      obtain ⟨v, hv⟩ : ∃ v : Int, v = n % 7 := ⟨_, rfl⟩
      rw [← hv] at hw
      have v1 : 0 ≤ v := by omega
      clear hv
      obtain ⟨n1, n2⟩ := hn
      obtain ⟨y1, y2, _⟩ := Civ.date_spec n1 n2
      obtain ⟨s1, s2, s3, s4, s5, s6⟩ := Wk.year_spec x n1 n2
      have fe : ∀ y, 0 ≤ y → y ≤ 10001 → Wk.first y x = Wk.fst y x := fun y a b => by unfold Wk.first; rw [if_pos ⟨hx, a, b⟩]
      have FE := Lib.hid fe
      have hYN : Wk.numY n x = Wk.year n x := by unfold Wk.numY; rw [if_pos ⟨hx, n1, n2⟩]
      have hNN : Wk.numN n x = (n - Wk.fst (Wk.year n x) x) / 7 + 1 := by unfold Wk.numN; rw [if_pos ⟨hx, n1, n2⟩]
      have HYN := Lib.hid hYN
      have HNN := Lib.hid hNN
      clear fe hYN hNN
      go_enter Tryz.func151, Tryz.ntmps151
      go_wp2_with (first | (go_at_call 138; refine (isStart_any _ _).mono ?_; rintro e w' ⟨rfl, rfl⟩) | (go_at_call 139; refine (weekday_any _ _).mono ?_; rintro e w' ⟨rfl, rfl⟩) | (go_at_call 100; refine (date_any _ _ HT.out).mono ?_; rintro e w' ⟨rfl, rfl⟩))
      go_loop [6] (fun v => ∃ k : Int, Wk.year n x ≤ k ∧ k ≤ Civ.dateY n + 1 ∧ v = .int .i64 k) (fun v => (intOf v - Wk.year n x).toNat)
      case atStart => exact ⟨_, by omega, by omega, rfl⟩
      case round =>
        obtain ⟨k, k1, k2, rfl⟩ := hrel
        have fk : Wk.first k x = Wk.fst k x := FE.out k (by omega) (by omega)
        have ha := Wk.ahead_rng (y := k) (by omega) (by omega)
        have fb := Wk.fst_bd k x
        by_cases hlt : Wk.year n x < k
        · have hgo : n < Wk.fst k x := by
            have := Wk.fst_mono_le (w := x) (y := Wk.year n x + 1) (z := k) (by omega)
            omega
          go_wp2_with (first | (go_at_call 174; refine (first_any _ _ _).mono ?_; rintro e w' ⟨rfl, rfl⟩))
          go_round
          case rel => exact ⟨k - 1, by omega, by omega, rfl⟩
          case measure => simp [intOf]; omega
        · have hke : k = Wk.year n x := by omega
          have hno : Wk.fst k x ≤ n := by rw [hke]; exact s1
          have Hk := Lib.hid hke
          clear hke hlt
          go_wp2_with (first | (go_at_call 174; refine (first_any _ _ _).mono ?_; rintro e w' ⟨rfl, rfl⟩))
          go_ret2
          exact ⟨ret_ii (by rw [HYN.out, Hk.out]) (by rw [HNN.out, Hk.out]), rfl⟩
    · have hw : Civ.weekday n = -1 := by
        unfold Civ.weekday; rw [if_neg]; rw [Civ.isDay_iff]; exact hn
      go_enter Tryz.func151, Tryz.ntmps151
      go_wp2_with (first | (go_at_call 138; refine (isStart_any _ _).mono ?_; rintro e w' ⟨rfl, rfl⟩) | (go_at_call 139; refine (weekday_any _ _).mono ?_; rintro e w' ⟨rfl, rfl⟩))
      go_ret2
      exact ⟨ret_ii (by unfold Wk.numY; rw [if_neg]; intro hh; exact hn hh.2) (by unfold Wk.numN; rw [if_neg]; intro hh; exact hn hh.2), rfl⟩
theorem weeks_bd {y x : Int} (h1 : 0 ≤ x) (h2 : x < 7) (h3 : 0 ≤ y) (h4 : y ≤ 10000) : 52 ≤ Wk.weeks y x ∧ Wk.weeks y x ≤ 53 := by
  have hx := (Wk.isStart_iff x).2 ⟨h1, h2⟩
  have e1 := Wk.fst_bd y x
  have e2 := Wk.fst_bd (y + 1) x
  have e3 := Wk.fst_mod y x
  have e4 := Wk.fst_mod (y + 1) x
  have e5 : Civ.ahead y + 365 ≤ Civ.ahead (y + 1) ∧ Civ.ahead (y + 1) ≤ Civ.ahead y + 366 := by unfold Civ.ahead; omega
  unfold Wk.weeks
  rw [if_pos ⟨hx, h3, h4⟩]
  omega
theorem number_bd (n x : Int) : 0 ≤ Wk.numN n x ∧ Wk.numN n x ≤ 60 ∧ 0 ≤ Wk.numY n x ∧ Wk.numY n x ≤ 10000 := by
  by_cases h : Wk.isStart x = true ∧ 0 ≤ n ∧ n ≤ 3652058
  · unfold Wk.numN Wk.numY
    rw [if_pos h, if_pos h]
    obtain ⟨s1, s2, s3, s4, s5, s6⟩ := Wk.year_spec x h.2.1 h.2.2
    have e1 := Wk.fst_bd (Wk.year n x) x
    have e2 := Wk.fst_bd (Wk.year n x + 1) x
    have e5 : Civ.ahead (Wk.year n x + 1) ≤ Civ.ahead (Wk.year n x) + 366 := by unfold Civ.ahead; omega
    omega
  · unfold Wk.numN Wk.numY
    rw [if_neg h, if_neg h]
    omega
theorem weeks_bd' (y x : Int) : 0 ≤ Wk.weeks y x ∧ Wk.weeks y x ≤ 53 := by
  by_cases h : Wk.isStart x = true ∧ 0 ≤ y ∧ y ≤ 10000
  · obtain ⟨x1, x2⟩ := (Wk.isStart_iff x).1 h.1
    have := weeks_bd x1 x2 h.2.1 h.2.2
    omega
  · unfold Wk.weeks; rw [if_neg h]; omega
set_option maxHeartbeats 400000 in
theorem backN_any (n x : Int) (w : World) (hT : Tab w) : Calls Tryz.prog 152 #[.int .i64 n, .int .i64 x] w fun e w' => e = .returned (.int .i64 (Wk.backN n x)) ∧ w = w' := by
  have HT := Lib.hid hT
  clear hT
  have nb := number_bd n x
  have wb := weeks_bd' (Wk.numY n x) x
  by_cases h0 : Wk.numN n x = 0
  · have hb : (Wk.numN n x == 0) = true := by rw [beq_iff_eq]; exact h0
    have H0 := Lib.hid h0
    clear h0
    go_enter Tryz.func152, Tryz.ntmps152
    go_wp2_with (first | (go_at_call 151; refine (number_any _ _ _ HT.out).mono ?_; rintro e w' ⟨rfl, rfl⟩))
    go_ret
    exact ⟨ret_i (by unfold Wk.backN; rw [if_pos H0.out]), rfl⟩
  · have hb : (Wk.numN n x == 0) = false := by rw [beq_eq_false_iff_ne]; exact h0
    go_enter Tryz.func152, Tryz.ntmps152
    go_wp2_with (first | (go_at_call 151; refine (number_any _ _ _ HT.out).mono ?_; rintro e w' ⟨rfl, rfl⟩) | (go_at_call 175; refine (weeks_any _ _ _).mono ?_; rintro e w' ⟨rfl, rfl⟩))
    go_ret
    exact ⟨ret_i (by unfold Wk.backN; rw [if_neg (by omega)]), rfl⟩
end Go.Proofs.YtkbohijlhhpfbaaGreatDoor.Cw
