/- The walks through errandref10. -/
import Derived.Test.YtpfimkjfonijcaaDoorCr
import Derived.Test.YtpfimkjfonijcaaDoorWw
namespace Go.Proofs.YtpfimkjfonijcaaDoor.Cw
open Go.RowKit
theorem isStart_no {x : Int} (h : ¬ (0 ≤ x ∧ x < 7)) : Wk.isStart x = false := by
  cases hh : Wk.isStart x
  · rfl
  · exact absurd ((Wk.isStart_iff x).1 hh) h
theorem rIs_any (x : Int) (w : World) : Calls Tryd.prog 78 #[.int .i64 x] w fun e w' => e = .returned (.bool (Wk.isStart x)) ∧ w = w' := by
  by_cases h1 : 0 ≤ x
  · by_cases h2 : x ≤ 6
    · go_enter Tryd.func78, Tryd.ntmps78
      go_wp2
      go_ret
      exact ⟨ret_b ((Wk.isStart_iff x).2 ⟨by omega, by omega⟩).symm, rfl⟩
    · go_enter Tryd.func78, Tryd.ntmps78
      go_wp2
      go_ret
      exact ⟨ret_b (isStart_no (by omega)).symm, rfl⟩
  · go_enter Tryd.func78, Tryd.ntmps78
    go_wp2
    go_ret
    exact ⟨ret_b (isStart_no (by omega)).symm, rfl⟩
theorem rem7 (k : Int) : (wrap64 (k.tmod 7 + 7)).tmod 7 = k % 7 := by
  have h : k.tmod 7 = if 0 ≤ k then k % 7 else -((-k) % 7) := by
    split
    · next h => exact Int.tmod_eq_emod_of_nonneg h
    · next h =>
      have e : k = -(-k) := by omega
      conv => lhs; rw [e]
      rw [Int.neg_tmod, Int.tmod_eq_emod_of_nonneg (by omega)]
  have hb : -6 ≤ k.tmod 7 ∧ k.tmod 7 ≤ 6 := by rw [h]; split <;> omega
  rw [IntWalk.wrap64_in _ ⟨by omega, by omega⟩, Int.tmod_eq_emod_of_nonneg (by omega), h]
  split <;> omega
set_option maxHeartbeats 400000 in
theorem rbegin_any (n x : Int) (w : World) (h1 : -1000 ≤ n) (h2 : n ≤ 10000000) (h3 : 0 ≤ x) (h4 : x < 7) : Calls Tryd.prog 89 #[.int .i64 n, .int .i64 x] w fun e w' => e = .returned (.int .i64 (n - Wk.back n x)) ∧ w = w' := by
  have hb := Wk.back_bd n x
  go_enter Tryd.func89, Tryd.ntmps89
  go_wp2
  go_loop [0] (fun v => ∃ k : Int, n - Wk.back n x ≤ k ∧ k ≤ n ∧ v = .int .i64 k) (fun v => (intOf v - (n - Wk.back n x)).toNat)
  case atStart => exact ⟨n, by omega, by omega, rfl⟩
  case round =>
    obtain ⟨k, k1, k2, rfl⟩ := hrel
    by_cases hlt : n - Wk.back n x < k
    · have hr := rem7 k
      have hne : (k % 7 != x) = true := by rw [bne_iff_ne]; unfold Wk.back at k1 hlt; omega
      go_wp2
      go_round
      case rel => exact ⟨k - 1, by omega, by omega, rfl⟩
      case measure => simp [intOf]; omega
    · have hke : k = n - Wk.back n x := by omega
      have hr := rem7 k
      have hne : (k % 7 != x) = false := by rw [bne_eq_false_iff_eq, hke]; unfold Wk.back; omega
      have Hk := Lib.hid hke
      clear hke hlt
      go_wp2
      go_ret
      exact ⟨ret_i Hk.out, rfl⟩
set_option maxHeartbeats 400000 in
theorem january_any (y : Int) (w : World) (h1 : 0 ≤ y) (h2 : y ≤ 10001) : Calls Tryd.prog 90 #[.int .i64 y] w fun e w' => e = .returned (.int .i64 (Civ.ahead y + 3)) ∧ w = w' := by
  by_cases h0 : y = 0
  · have h0' : (y == 0) = true := by rw [beq_iff_eq]; exact h0
    have H0 := Lib.hid h0
    clear h0
    go_enter Tryd.func90, Tryd.ntmps90
    go_wp2
    go_ret
    exact ⟨ret_i (by rw [H0.out]; decide), rfl⟩
  · have h0' : (y == 0) = false := by rw [beq_eq_false_iff_ne]; exact h0
    by_cases h3 : y ≤ 9999
    · have hd := (Civ.day_of (y := y) (m := 1) (d := 4) (by omega) (by have := Civ.len_ge (y := y) (m := 1) (by omega) h3 (by omega) (by omega); omega)).1
      rw [Civ.til_first] at hd
      have Hd := Lib.hid hd
      clear hd
      go_enter Tryd.func90, Tryd.ntmps90
      go_wp2_with (first | (go_at_call 92; refine (rDay_any _ _ _ _).mono ?_; rintro e w' ⟨rfl, rfl⟩))
      go_ret
      exact ⟨ret_i (by rw [Hd.out]; omega), rfl⟩
    · have e1 : Civ.day 9999 1 4 = 3651697 := by decide
      have hy : y = 10000 ∨ y = 10001 := by omega
      rcases hy with rfl | rfl
      all_goals
        go_enter Tryd.func90, Tryd.ntmps90
        go_wp2_with (first | (go_at_call 92; refine (rDay_any _ _ _ _).mono ?_; rintro e w' ⟨rfl, rfl⟩))
        go_ret
        exact ⟨ret_i (by decide), rfl⟩
set_option maxHeartbeats 400000 in
theorem rFirst_any (y x : Int) (w : World) : Calls Tryd.prog 79 #[.int .i64 y, .int .i64 x] w fun e w' => e = .returned (.int .i64 (Wk.first y x)) ∧ w = w' := by
  cases hx : Wk.isStart x
  · go_enter Tryd.func79, Tryd.ntmps79
    go_wp2_with (first | (go_at_call 78; refine (rIs_any _ _).mono ?_; rintro e w' ⟨rfl, rfl⟩))
    go_ret
    exact ⟨ret_i (by simp [Wk.first, hx]), rfl⟩
  · obtain ⟨x1, x2⟩ := (Wk.isStart_iff x).1 hx
    by_cases h1 : 0 ≤ y
    · by_cases h2 : y ≤ 10001
      · have ha := Wk.ahead_rng h1 (by omega : y ≤ 10002)
        go_enter Tryd.func79, Tryd.ntmps79
        go_wp2_with (first | (go_at_call 78; refine (rIs_any _ _).mono ?_; rintro e w' ⟨rfl, rfl⟩) | (go_at_call 90; refine (january_any _ _ (by omega) (by omega)).mono ?_; rintro e w' ⟨rfl, rfl⟩) | (go_at_call 89; refine (rbegin_any _ _ _ (by omega) (by omega) (by omega) (by omega)).mono ?_; rintro e w' ⟨rfl, rfl⟩))
        go_ret
        exact ⟨ret_i (by unfold Wk.first; rw [if_pos ⟨hx, h1, h2⟩]; rfl), rfl⟩
      · go_enter Tryd.func79, Tryd.ntmps79
        go_wp2_with (first | (go_at_call 78; refine (rIs_any _ _).mono ?_; rintro e w' ⟨rfl, rfl⟩))
        go_ret
        exact ⟨ret_i (by unfold Wk.first; rw [if_neg]; intro hh; omega), rfl⟩
    · go_enter Tryd.func79, Tryd.ntmps79
      go_wp2_with (first | (go_at_call 78; refine (rIs_any _ _).mono ?_; rintro e w' ⟨rfl, rfl⟩))
      go_ret
      exact ⟨ret_i (by unfold Wk.first; rw [if_neg]; intro hh; omega), rfl⟩
set_option maxHeartbeats 400000 in
theorem rWeeks_any (y x : Int) (w : World) : Calls Tryd.prog 80 #[.int .i64 y, .int .i64 x] w fun e w' => e = .returned (.int .i64 (Wk.weeks y x)) ∧ w = w' := by
  cases hx : Wk.isStart x
  · go_enter Tryd.func80, Tryd.ntmps80
    go_wp2_with (first | (go_at_call 78; refine (rIs_any _ _).mono ?_; rintro e w' ⟨rfl, rfl⟩))
    go_ret
    exact ⟨ret_i (by simp [Wk.weeks, hx]), rfl⟩
  · by_cases h1 : 0 ≤ y
    · by_cases h2 : y ≤ 10000
      · have f1 := first_bd y x
        have f2 := first_bd (y + 1) x
        have e1 : Wk.first y x = Wk.fst y x := by unfold Wk.first; rw [if_pos ⟨hx, by omega, by omega⟩]
        have e2 : Wk.first (y + 1) x = Wk.fst (y + 1) x := by unfold Wk.first; rw [if_pos ⟨hx, by omega, by omega⟩]
        have hm := Wk.fst_mono (w := x) (y := y) (z := y + 1) (by omega)
        rw [e1] at f1
        rw [e2] at f2
        go_enter Tryd.func80, Tryd.ntmps80
        go_wp2_with (first | (go_at_call 78; refine (rIs_any _ _).mono ?_; rintro e w' ⟨rfl, rfl⟩) | (go_at_call 79; refine (rFirst_any _ _ _).mono ?_; rintro e w' ⟨rfl, rfl⟩))
        go_ret
        exact ⟨ret_i (by unfold Wk.weeks; rw [if_pos ⟨hx, h1, h2⟩]), rfl⟩
      · go_enter Tryd.func80, Tryd.ntmps80
        go_wp2_with (first | (go_at_call 78; refine (rIs_any _ _).mono ?_; rintro e w' ⟨rfl, rfl⟩))
        go_ret
        exact ⟨ret_i (by unfold Wk.weeks; rw [if_neg]; intro hh; omega), rfl⟩
    · go_enter Tryd.func80, Tryd.ntmps80
      go_wp2_with (first | (go_at_call 78; refine (rIs_any _ _).mono ?_; rintro e w' ⟨rfl, rfl⟩))
      go_ret
      exact ⟨ret_i (by unfold Wk.weeks; rw [if_neg]; intro hh; omega), rfl⟩
set_option maxHeartbeats 1000000 in
theorem rNumber_any (n x : Int) (w : World) : Calls Tryd.prog 54 #[.int .i64 n, .int .i64 x] w fun e w' => e = .returned (.tuple #[.int .i64 (Wk.numY n x), .int .i64 (Wk.numN n x)]) ∧ w = w' := by
  cases hx : Wk.isStart x
  · go_enter Tryd.func54, Tryd.ntmps54
    go_wp2_with (first | (go_at_call 78; refine (rIs_any _ _).mono ?_; rintro e w' ⟨rfl, rfl⟩))
    go_ret2
    exact ⟨ret_ii (by simp [Wk.numY, hx]) (by simp [Wk.numN, hx]), rfl⟩
  · by_cases h1 : 0 ≤ n
    · by_cases h2 : n ≤ 3652058
      · obtain ⟨y1, y2, _⟩ := Civ.date_spec h1 h2
        obtain ⟨s1, s2, s3, s4, s5, s6⟩ := Wk.year_spec x h1 h2
        have e0 : Wk.first (Civ.dateY n) x = Wk.fst (Civ.dateY n) x := by unfold Wk.first; rw [if_pos ⟨hx, by omega, by omega⟩]
        have e1 : Wk.first (Civ.dateY n + 1) x = Wk.fst (Civ.dateY n + 1) x := by unfold Wk.first; rw [if_pos ⟨hx, by omega, by omega⟩]
        have e2 : Wk.first (Civ.dateY n - 1) x = Wk.fst (Civ.dateY n - 1) x := by unfold Wk.first; rw [if_pos ⟨hx, by omega, by omega⟩]
        have hYN : Wk.numY n x = Wk.year n x := by unfold Wk.numY; rw [if_pos ⟨hx, h1, h2⟩]
        have hNN : Wk.numN n x = (n - Wk.fst (Wk.year n x) x) / 7 + 1 := by unfold Wk.numN; rw [if_pos ⟨hx, h1, h2⟩]
        have HYN := Lib.hid hYN
        have HNN := Lib.hid hNN
        clear hYN hNN
        by_cases c1 : n < Wk.fst (Civ.dateY n) x
        · have hy : Wk.year n x = Civ.dateY n - 1 := by unfold Wk.year; rw [if_pos c1]
          have Hy := Lib.hid hy
          rw [hy] at s1
          have fb := Wk.fst_bd (Civ.dateY n - 1) x
          have ha := Wk.ahead_rng (y := Civ.dateY n - 1) (by omega) (by omega)
          clear hy s2 s3 s4 s5 s6
          go_enter Tryd.func54, Tryd.ntmps54
          go_wp2_with (first | (go_at_call 78; refine (rIs_any _ _).mono ?_; rintro e w' ⟨rfl, rfl⟩) | (go_at_call 30; refine (rDate_any _ _).mono ?_; rintro e w' ⟨rfl, rfl⟩) | (go_at_call 79; refine (rFirst_any _ _ _).mono ?_; rintro e w' ⟨rfl, rfl⟩))
          go_ret2
          exact ⟨ret_ii (by rw [HYN.out, Hy.out]) (by rw [HNN.out, Hy.out]), rfl⟩
        · by_cases c2 : Wk.fst (Civ.dateY n + 1) x ≤ n
          · have hy : Wk.year n x = Civ.dateY n + 1 := by unfold Wk.year; rw [if_neg c1, if_pos c2]
            have Hy := Lib.hid hy
            rw [hy] at s1
            have fb := Wk.fst_bd (Civ.dateY n + 1) x
            have ha := Wk.ahead_rng (y := Civ.dateY n + 1) (by omega) (by omega)
            clear hy s2 s3 s4 s5 s6
            go_enter Tryd.func54, Tryd.ntmps54
            go_wp2_with (first | (go_at_call 78; refine (rIs_any _ _).mono ?_; rintro e w' ⟨rfl, rfl⟩) | (go_at_call 30; refine (rDate_any _ _).mono ?_; rintro e w' ⟨rfl, rfl⟩) | (go_at_call 79; refine (rFirst_any _ _ _).mono ?_; rintro e w' ⟨rfl, rfl⟩))
            go_ret2
            exact ⟨ret_ii (by rw [HYN.out, Hy.out]) (by rw [HNN.out, Hy.out]), rfl⟩
          · have hy : Wk.year n x = Civ.dateY n := by unfold Wk.year; rw [if_neg c1, if_neg c2]
            have Hy := Lib.hid hy
            rw [hy] at s1
            have fb := Wk.fst_bd (Civ.dateY n) x
            have ha := Wk.ahead_rng (y := Civ.dateY n) (by omega) (by omega)
            clear hy s2 s3 s4 s5 s6
            go_enter Tryd.func54, Tryd.ntmps54
            go_wp2_with (first | (go_at_call 78; refine (rIs_any _ _).mono ?_; rintro e w' ⟨rfl, rfl⟩) | (go_at_call 30; refine (rDate_any _ _).mono ?_; rintro e w' ⟨rfl, rfl⟩) | (go_at_call 79; refine (rFirst_any _ _ _).mono ?_; rintro e w' ⟨rfl, rfl⟩))
            go_ret2
            exact ⟨ret_ii (by rw [HYN.out, Hy.out]) (by rw [HNN.out, Hy.out]), rfl⟩
      · go_enter Tryd.func54, Tryd.ntmps54
        go_wp2_with (first | (go_at_call 78; refine (rIs_any _ _).mono ?_; rintro e w' ⟨rfl, rfl⟩))
        go_ret2
        exact ⟨ret_ii (by unfold Wk.numY; rw [if_neg]; intro hh; omega) (by unfold Wk.numN; rw [if_neg]; intro hh; omega), rfl⟩
    · go_enter Tryd.func54, Tryd.ntmps54
      go_wp2_with (first | (go_at_call 78; refine (rIs_any _ _).mono ?_; rintro e w' ⟨rfl, rfl⟩))
      go_ret2
      exact ⟨ret_ii (by unfold Wk.numY; rw [if_neg]; intro hh; omega) (by unfold Wk.numN; rw [if_neg]; intro hh; omega), rfl⟩
set_option maxHeartbeats 400000 in
theorem rBack_any (n x : Int) (w : World) : Calls Tryd.prog 55 #[.int .i64 n, .int .i64 x] w fun e w' => e = .returned (.int .i64 (Wk.backN n x)) ∧ w = w' := by
  have nb := number_bd n x
  have wb := weeks_bd' (Wk.numY n x) x
  by_cases h0 : Wk.numN n x = 0
  · have hb : (Wk.numN n x == 0) = true := by rw [beq_iff_eq]; exact h0
    have H0 := Lib.hid h0
    clear h0
    go_enter Tryd.func55, Tryd.ntmps55
    go_wp2_with (first | (go_at_call 54; refine (rNumber_any _ _ _).mono ?_; rintro e w' ⟨rfl, rfl⟩))
    go_ret
    exact ⟨ret_i (by unfold Wk.backN; rw [if_pos H0.out]), rfl⟩
  · have hb : (Wk.numN n x == 0) = false := by rw [beq_eq_false_iff_ne]; exact h0
    go_enter Tryd.func55, Tryd.ntmps55
    go_wp2_with (first | (go_at_call 54; refine (rNumber_any _ _ _).mono ?_; rintro e w' ⟨rfl, rfl⟩) | (go_at_call 80; refine (rWeeks_any _ _ _).mono ?_; rintro e w' ⟨rfl, rfl⟩))
    go_ret
    exact ⟨ret_i (by unfold Wk.backN; rw [if_neg (by omega)]; omega), rfl⟩
end Go.Proofs.YtpfimkjfonijcaaDoor.Cw
