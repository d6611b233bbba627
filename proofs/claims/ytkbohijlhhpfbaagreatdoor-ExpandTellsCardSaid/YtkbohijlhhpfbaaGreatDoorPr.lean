/- The walks through errandref22. -/
import Derived.Test.YtkbohijlhhpfbaaGreatDoorWr
import Derived.Test.YtkbohijlhhpfbaaGreatDoorPwb
namespace Go.Proofs.YtkbohijlhhpfbaaGreatDoor.Cw
open Go.RowKit
theorem rMay_any (f x : Int) (w : World) : Calls Tryz.prog 76 #[.int .u8 f, .int .i64 x] w fun e w' => e = .returned (.bool (Pd.counts f x)) ∧ w = w' := by
  by_cases h1 : f ≤ 6
  · by_cases h2 : 0 ≤ x
    · by_cases h3 : x ≤ 6
      · go_enter Tryz.func76, Tryz.ntmps76
        go_wp2
        go_ret
        exact ⟨ret_b (by simp [Pd.counts]; omega), rfl⟩
      · go_enter Tryz.func76, Tryz.ntmps76
        go_wp2
        go_ret
        exact ⟨ret_b (by simp [Pd.counts]; omega), rfl⟩
    · go_enter Tryz.func76, Tryz.ntmps76
      go_wp2
      go_ret
      exact ⟨ret_b (by simp [Pd.counts]; omega), rfl⟩
  · go_enter Tryz.func76, Tryz.ntmps76
    go_wp2
    go_ret
    exact ⟨ret_b (by simp [Pd.counts]; omega), rfl⟩
theorem rClip_any (a b : Int) (w : World) (h1 : -100000 ≤ a) (h2 : a ≤ 10000000) (h3 : -100000 ≤ b) (h4 : b ≤ 10000000) : Calls Tryz.prog 80 #[.int .i64 a, .int .i64 b] w fun e w' => e = .returned (.tuple #[.int .i64 (Pd.lo a), .int .i64 (Pd.hi b)]) ∧ w = w' := by
  by_cases h5 : 0 ≤ a <;> by_cases h6 : b ≤ 3652059
  all_goals
    go_enter Tryz.func80, Tryz.ntmps80
    go_wp2
    all_goals
      go_ret2
      exact ⟨ret_ii (by unfold Pd.lo; split <;> omega) (by unfold Pd.hi; split <;> omega), rfl⟩
theorem rUnits_any (i n : Int) (w : World) (h1 : 0 ≤ i * n) (h2 : i * n ≤ 1000000000000) (h3 : 0 ≤ n) (h4 : n ≤ 100000) : Calls Tryz.prog 79 #[.int .i64 i, .int .i64 n] w fun e w' => e = .returned (.tuple #[.int .i64 (i * n), .int .i64 (i * n + n)]) ∧ w = w' := by
  go_enter Tryz.func79, Tryz.ntmps79
  go_wp2
  go_ret2
  exact ⟨rfl, rfl⟩
set_option maxHeartbeats 1000000 in
theorem rIndex_any (f x s : Int) (w : World) (f0 : 0 ≤ f) : Calls Tryz.prog 77 #[.int .u8 f, .int .i64 x, .int .i64 s] w fun e w' => e = .returned (.int .i64 (Pd.index f x s)) ∧ w = w' := by
  by_cases hc : Pd.counts f x = true
  · obtain ⟨c1, c2, c3⟩ := (Pd.counts_iff f x).1 hc
    by_cases s1 : 0 ≤ s
    · by_cases s2 : s ≤ 315537897599
      · have hi : Pd.index f x s = Pd.num f x s := by unfold Pd.index; rw [if_pos ⟨hc, s1, s2⟩]
        have Hi := Lib.hid hi
        clear hi
        have d1 : 0 ≤ s / 86400 := by omega
        have d2 : s / 86400 ≤ 3652058 := by omega
        have hx := (Wk.isStart_iff x).2 ⟨c2, by omega⟩
        have hb : Wk.begin (s / 86400) x = s / 86400 - Wk.back (s / 86400) x := by unfold Wk.begin; rw [if_pos ⟨hx, d1, d2⟩]
        have bb := Wk.back_bd (s / 86400) x
        have ht := Lib.hid (show (s / 86400 - Wk.back (s / 86400) x + 7 - x) / 7 = (s / 86400 - Wk.back (s / 86400) x - x) / 7 + 1 by omega)
        have h0 : (s / 86400 - Wk.back (s / 86400) x - x) % 7 = 0 := by unfold Wk.back; omega
        have ht2 := tdiv7 (a := s / 86400 - Wk.back (s / 86400) x + 7 - x) (by omega)
        clear h0
        obtain ⟨y1, y2, m1, m2, _, _, _⟩ := Civ.date_spec d1 d2
        have hf : f = 0 ∨ f = 1 ∨ f = 2 ∨ f = 3 ∨ f = 4 ∨ f = 5 ∨ f = 6 := by omega
        rcases hf with rfl | rfl | rfl | rfl | rfl | rfl | rfl
        all_goals
          go_enter Tryz.func77, Tryz.ntmps77
          go_wp2_with (first | (go_at_call 76; refine (rMay_any _ _ _).mono ?_; rintro e w' ⟨rfl, rfl⟩) | (go_at_call 115; refine (rBegin_any _ _ _).mono ?_; rintro e w' ⟨rfl, rfl⟩) | (go_at_call 114; refine (rDate_any _ _).mono ?_; rintro e w' ⟨rfl, rfl⟩))
          go_ret
          exact ⟨ret_i (by rw [Hi.out]; simp [Pd.num, Pd.unit] <;> first | exact ht.out | omega), rfl⟩
      · go_enter Tryz.func77, Tryz.ntmps77
        go_wp2_with (first | (go_at_call 76; refine (rMay_any _ _ _).mono ?_; rintro e w' ⟨rfl, rfl⟩))
        go_ret
        exact ⟨ret_i (by unfold Pd.index; rw [if_neg (by omega)]), rfl⟩
    · go_enter Tryz.func77, Tryz.ntmps77
      go_wp2_with (first | (go_at_call 76; refine (rMay_any _ _ _).mono ?_; rintro e w' ⟨rfl, rfl⟩))
      go_ret
      exact ⟨ret_i (by unfold Pd.index; rw [if_neg (by omega)]), rfl⟩
  · go_enter Tryz.func77, Tryz.ntmps77
    go_wp2_with (first | (go_at_call 76; refine (rMay_any _ _ _).mono ?_; rintro e w' ⟨rfl, rfl⟩))
    go_ret
    exact ⟨ret_i (by unfold Pd.index; rw [if_neg (fun h => hc h.1)]), rfl⟩
theorem rLast_any (f x : Int) (w : World) (f0 : 0 ≤ f) : Calls Tryz.prog 78 #[.int .u8 f, .int .i64 x] w fun e w' => e = .returned (.int .i64 (Pd.last f x)) ∧ w = w' := by
  go_enter Tryz.func78, Tryz.ntmps78
  go_wp2_with (first | (go_at_call 77; refine (rIndex_any _ _ _ _ f0).mono ?_; rintro e w' ⟨rfl, rfl⟩))
  go_ret
  exact ⟨rfl, rfl⟩
set_option maxHeartbeats 2000000 in
theorem rStretch_any (f x i : Int) (w : World) (f0 : 0 ≤ f) : Calls Tryz.prog 38 #[.int .u8 f, .int .i64 x, .int .i64 i] w fun e w' => e = .returned (.tuple #[.int .i64 (Pd.frm f x i), .int .i64 (Pd.to f x i)]) ∧ w = w' := by
  by_cases hc : Pd.counts f x = true
  · obtain ⟨c1, c2, c3⟩ := (Pd.counts_iff f x).1 hc
    by_cases i1 : Pd.index f x 0 ≤ i
    · by_cases i2 : i ≤ Pd.last f x
      · have hF : Pd.frm f x i = if f ≤ 3 then i * Pd.unit f else Pd.lo (Pd.day0 f x i) := by unfold Pd.frm; rw [if_pos ⟨hc, i1, i2⟩]
        have hL : Pd.to f x i = if f ≤ 3 then (i + 1) * Pd.unit f else Pd.hi (Pd.day1 f x i) := by unfold Pd.to; rw [if_pos ⟨hc, i1, i2⟩]
        have HF := Lib.hid hF
        have HL := Lib.hid hL
        clear hF hL
        obtain ⟨r0, r1, r2, r3, r4, r5, r6⟩ := Pd.idx_rng hc f0 i1 i2
        have hf : f = 0 ∨ f = 1 ∨ f = 2 ∨ f = 3 ∨ f = 4 ∨ f = 5 ∨ f = 6 := by omega
        rcases hf with rfl | rfl | rfl | rfl | rfl | rfl | rfl
        · obtain ⟨a1, a2⟩ := r0 rfl
          clear r0 r1 r2 r3 r4 r5 r6
          go_enter Tryz.func38, Tryz.ntmps38
          go_wp2_with (first | (go_at_call 76; refine (rMay_any _ _ _).mono ?_; rintro e w' ⟨rfl, rfl⟩) | (go_at_call 77; refine (rIndex_any _ _ _ _ f0).mono ?_; rintro e w' ⟨rfl, rfl⟩) | (go_at_call 78; refine (rLast_any _ _ _ f0).mono ?_; rintro e w' ⟨rfl, rfl⟩) | (go_at_call 79; refine (rUnits_any _ _ _ (by omega) (by omega) (by omega) (by omega)).mono ?_; rintro e w' ⟨rfl, rfl⟩))
          go_ret2
          exact ⟨ret_ii (by rw [HF.out]; simp [Pd.unit]) (by rw [HL.out]; simp [Pd.unit] <;> omega), rfl⟩
        · obtain ⟨a1, a2⟩ := r1 rfl
          clear r0 r1 r2 r3 r4 r5 r6
          go_enter Tryz.func38, Tryz.ntmps38
          go_wp2_with (first | (go_at_call 76; refine (rMay_any _ _ _).mono ?_; rintro e w' ⟨rfl, rfl⟩) | (go_at_call 77; refine (rIndex_any _ _ _ _ f0).mono ?_; rintro e w' ⟨rfl, rfl⟩) | (go_at_call 78; refine (rLast_any _ _ _ f0).mono ?_; rintro e w' ⟨rfl, rfl⟩) | (go_at_call 79; refine (rUnits_any _ _ _ (by omega) (by omega) (by omega) (by omega)).mono ?_; rintro e w' ⟨rfl, rfl⟩))
          go_ret2
          exact ⟨ret_ii (by rw [HF.out]; simp [Pd.unit]) (by rw [HL.out]; simp [Pd.unit] <;> omega), rfl⟩
        · obtain ⟨a1, a2⟩ := r2 rfl
          clear r0 r1 r2 r3 r4 r5 r6
          go_enter Tryz.func38, Tryz.ntmps38
          go_wp2_with (first | (go_at_call 76; refine (rMay_any _ _ _).mono ?_; rintro e w' ⟨rfl, rfl⟩) | (go_at_call 77; refine (rIndex_any _ _ _ _ f0).mono ?_; rintro e w' ⟨rfl, rfl⟩) | (go_at_call 78; refine (rLast_any _ _ _ f0).mono ?_; rintro e w' ⟨rfl, rfl⟩) | (go_at_call 79; refine (rUnits_any _ _ _ (by omega) (by omega) (by omega) (by omega)).mono ?_; rintro e w' ⟨rfl, rfl⟩))
          go_ret2
          exact ⟨ret_ii (by rw [HF.out]; simp [Pd.unit]) (by rw [HL.out]; simp [Pd.unit] <;> omega), rfl⟩
        · obtain ⟨a1, a2⟩ := r3 rfl
          clear r0 r1 r2 r3 r4 r5 r6
          go_enter Tryz.func38, Tryz.ntmps38
          go_wp2_with (first | (go_at_call 76; refine (rMay_any _ _ _).mono ?_; rintro e w' ⟨rfl, rfl⟩) | (go_at_call 77; refine (rIndex_any _ _ _ _ f0).mono ?_; rintro e w' ⟨rfl, rfl⟩) | (go_at_call 78; refine (rLast_any _ _ _ f0).mono ?_; rintro e w' ⟨rfl, rfl⟩) | (go_at_call 79; refine (rUnits_any _ _ _ (by omega) (by omega) (by omega) (by omega)).mono ?_; rintro e w' ⟨rfl, rfl⟩))
          go_ret2
          exact ⟨ret_ii (by rw [HF.out]; simp [Pd.unit]) (by rw [HL.out]; simp [Pd.unit] <;> omega), rfl⟩
        · obtain ⟨a1, a2⟩ := r4 rfl
          clear r0 r1 r2 r3 r4 r5 r6
          go_enter Tryz.func38, Tryz.ntmps38
          go_wp2_with (first | (go_at_call 76; refine (rMay_any _ _ _).mono ?_; rintro e w' ⟨rfl, rfl⟩) | (go_at_call 77; refine (rIndex_any _ _ _ _ f0).mono ?_; rintro e w' ⟨rfl, rfl⟩) | (go_at_call 78; refine (rLast_any _ _ _ f0).mono ?_; rintro e w' ⟨rfl, rfl⟩) | (go_at_call 80; refine (rClip_any _ _ _ (by omega) (by omega) (by omega) (by omega)).mono ?_; rintro e w' ⟨rfl, rfl⟩))
          go_ret2
          exact ⟨ret_ii (by rw [HF.out]; simp [Pd.day0]; congr 1; omega) (by rw [HL.out]; simp [Pd.day1]; congr 1; omega), rfl⟩
        · obtain ⟨a1, a2⟩ := r5 rfl
          clear r0 r1 r2 r3 r4 r5 r6
          have lg := Civ.len_ge (y := i / 12) (m := i % 12 + 1) (by omega) (by omega) (by omega) (by omega)
          have lb := Civ.len_bd (i / 12) (i % 12 + 1)
          have hdo := Civ.date_of (y := i / 12) (m := i % 12 + 1) (d := 1) (by omega) (by omega) (by omega) (by omega) (by omega) (by omega)
          have hdd := (Civ.day_of (y := i / 12) (m := i % 12 + 1) (d := 1) (by omega) (by omega)).1
          rw [← hdd] at hdo
          obtain ⟨q1, q2, _, _⟩ := hdo
          clear hdd
          go_enter Tryz.func38, Tryz.ntmps38
          go_wp2_with (first | (go_at_call 76; refine (rMay_any _ _ _).mono ?_; rintro e w' ⟨rfl, rfl⟩) | (go_at_call 77; refine (rIndex_any _ _ _ _ f0).mono ?_; rintro e w' ⟨rfl, rfl⟩) | (go_at_call 78; refine (rLast_any _ _ _ f0).mono ?_; rintro e w' ⟨rfl, rfl⟩) | (go_at_call 82; refine (rLen_any _ _ _).mono ?_; rintro e w' ⟨rfl, rfl⟩) | (go_at_call 81; refine (rDay_any _ _ _ _).mono ?_; rintro e w' ⟨rfl, rfl⟩) | (go_at_call 80; refine (rClip_any _ _ _ (by omega) (by omega) (by omega) (by omega)).mono ?_; rintro e w' ⟨rfl, rfl⟩))
          go_ret2
          exact ⟨ret_ii (by rw [HF.out]; simp [Pd.day0]) (by rw [HL.out]; simp [Pd.day1]), rfl⟩
        · obtain ⟨a1, a2⟩ := r6 rfl
          clear r0 r1 r2 r3 r4 r5 r6
          have lg := Civ.len_ge (y := i) (m := 1) (by omega) (by omega) (by omega) (by omega)
          have hdo := Civ.date_of (y := i) (m := 1) (d := 1) (by omega) (by omega) (by omega) (by omega) (by omega) (by omega)
          have hdd := (Civ.day_of (y := i) (m := 1) (d := 1) (by omega) (by omega)).1
          rw [← hdd] at hdo
          obtain ⟨q1, q2, _, _⟩ := hdo
          have hys := Civ.days_eq (y := i) (by omega) (by omega)
          have ho := Civ.one_bd i
          have hyb : 365 ≤ Civ.days i ∧ Civ.days i ≤ 366 := by omega
          clear hdd hys
          go_enter Tryz.func38, Tryz.ntmps38
          go_wp2_with (first | (go_at_call 76; refine (rMay_any _ _ _).mono ?_; rintro e w' ⟨rfl, rfl⟩) | (go_at_call 77; refine (rIndex_any _ _ _ _ f0).mono ?_; rintro e w' ⟨rfl, rfl⟩) | (go_at_call 78; refine (rLast_any _ _ _ f0).mono ?_; rintro e w' ⟨rfl, rfl⟩) | (go_at_call 83; refine (rDays_any _ _).mono ?_; rintro e w' ⟨rfl, rfl⟩) | (go_at_call 81; refine (rDay_any _ _ _ _).mono ?_; rintro e w' ⟨rfl, rfl⟩) | (go_at_call 80; refine (rClip_any _ _ _ (by omega) (by omega) (by omega) (by omega)).mono ?_; rintro e w' ⟨rfl, rfl⟩))
          go_ret2
          exact ⟨ret_ii (by rw [HF.out]; simp [Pd.day0]) (by rw [HL.out]; simp [Pd.day1]), rfl⟩
      · go_enter Tryz.func38, Tryz.ntmps38
        go_wp2_with (first | (go_at_call 76; refine (rMay_any _ _ _).mono ?_; rintro e w' ⟨rfl, rfl⟩) | (go_at_call 77; refine (rIndex_any _ _ _ _ f0).mono ?_; rintro e w' ⟨rfl, rfl⟩) | (go_at_call 78; refine (rLast_any _ _ _ f0).mono ?_; rintro e w' ⟨rfl, rfl⟩))
        go_ret2
        exact ⟨ret_ii (by unfold Pd.frm; rw [if_neg (by omega)]) (by unfold Pd.to; rw [if_neg (by omega)]), rfl⟩
    · go_enter Tryz.func38, Tryz.ntmps38
      go_wp2_with (first | (go_at_call 76; refine (rMay_any _ _ _).mono ?_; rintro e w' ⟨rfl, rfl⟩) | (go_at_call 77; refine (rIndex_any _ _ _ _ f0).mono ?_; rintro e w' ⟨rfl, rfl⟩))
      go_ret2
      exact ⟨ret_ii (by unfold Pd.frm; rw [if_neg (by omega)]) (by unfold Pd.to; rw [if_neg (by omega)]), rfl⟩
  · go_enter Tryz.func38, Tryz.ntmps38
    go_wp2_with (first | (go_at_call 76; refine (rMay_any _ _ _).mono ?_; rintro e w' ⟨rfl, rfl⟩))
    go_ret2
    exact ⟨ret_ii (by unfold Pd.frm; rw [if_neg (fun h => hc h.1)]) (by unfold Pd.to; rw [if_neg (fun h => hc h.1)]), rfl⟩
set_option maxHeartbeats 1000000 in
theorem rStep_any (a k b : Int) (w : World) : Calls Tryz.prog 95 #[.int .i64 a, .int .i64 k, .int .i64 b] w fun e w' => e = .returned (.int .i64 (Pd.step a k b)) ∧ w = w' := by
  by_cases hg : k < 1 ∨ 1000 < k ∨ a < 0 ∨ 315537897600 < a ∨ b < 0 ∨ 315537897600 < b
  · have hs := Lib.hid (show Pd.step a k b = -1 by unfold Pd.step; rw [if_pos hg])
    go_enter Tryz.func95, Tryz.ntmps95
    go_wp2
    all_goals
      go_ret
      exact ⟨ret_i hs.out.symm, rfl⟩
  · have g1 : 1 ≤ k := by omega
    have g2 : k ≤ 1000 := by omega
    have g3 : 0 ≤ a := by omega
    have g4 : a ≤ 315537897600 := by omega
    have g5 : 0 ≤ b := by omega
    have g6 : b ≤ 315537897600 := by omega
    by_cases hl : b ≤ a
    · have hs := Lib.hid (show Pd.step a k b = a by unfold Pd.step; rw [if_neg hg, if_pos hl])
      clear hg
      go_enter Tryz.func95, Tryz.ntmps95
      go_wp2
      go_ret
      exact ⟨ret_i hs.out.symm, rfl⟩
    · have hs := Lib.hid (show Pd.step a k b = a + (b - a + k - 1) / k * k by unfold Pd.step; rw [if_neg hg, if_neg hl])
      have q0 := Pd.up_bd (p := b - a) (k := k) (by omega) (by omega)
      clear hg
      go_enter Tryz.func95, Tryz.ntmps95
      go_wp2
      go_ret
      exact ⟨ret_i hs.out.symm, rfl⟩
end Go.Proofs.YtkbohijlhhpfbaaGreatDoor.Cw
