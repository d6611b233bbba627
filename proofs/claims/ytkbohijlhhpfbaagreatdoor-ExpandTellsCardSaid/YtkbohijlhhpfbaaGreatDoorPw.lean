/- The walks through period. -/
import Derived.Test.YtkbohijlhhpfbaaGreatDoorWw
import Derived.Test.YtkbohijlhhpfbaaGreatDoorXa
namespace Go.Proofs.YtkbohijlhhpfbaaGreatDoor.Cw
open Go.RowKit
theorem counts_any (f x : Int) (w : World) : Calls Tryz.prog 97 #[.int .u8 f, .int .i64 x] w fun e w' => e = .returned (.bool (Pd.counts f x)) ∧ w = w' := by
  by_cases h1 : f ≤ 6
  · by_cases h2 : 0 ≤ x
    · by_cases h3 : x ≤ 6
      · go_enter Tryz.func97, Tryz.ntmps97
        go_wp2
        go_ret
        exact ⟨ret_b (by simp [Pd.counts]; omega), rfl⟩
      · go_enter Tryz.func97, Tryz.ntmps97
        go_wp2
        go_ret
        exact ⟨ret_b (by simp [Pd.counts]; omega), rfl⟩
    · go_enter Tryz.func97, Tryz.ntmps97
      go_wp2
      go_ret
      exact ⟨ret_b (by simp [Pd.counts]; omega), rfl⟩
  · go_enter Tryz.func97, Tryz.ntmps97
    go_wp2
    go_ret
    exact ⟨ret_b (by simp [Pd.counts]; omega), rfl⟩
theorem unit_any (f : Int) (w : World) (h1 : 0 ≤ f) (h2 : f ≤ 3) : Calls Tryz.prog 98 #[.int .u8 f] w fun e w' => e = .returned (.int .i64 (Pd.unit f)) ∧ w = w' := by
  have hf : f = 0 ∨ f = 1 ∨ f = 2 ∨ f = 3 := by omega
  rcases hf with rfl | rfl | rfl | rfl
  all_goals
    go_enter Tryz.func98, Tryz.ntmps98
    go_wp2
    go_ret
    exact ⟨ret_i (by simp [Pd.unit]), rfl⟩
theorem clip_any (a b : Int) (w : World) (h1 : -100000 ≤ a) (h2 : a ≤ 10000000) (h3 : -100000 ≤ b) (h4 : b ≤ 10000000) : Calls Tryz.prog 106 #[.int .i64 a, .int .i64 b] w fun e w' => e = .returned (.tuple #[.int .i64 (Pd.lo a), .int .i64 (Pd.hi b)]) ∧ w = w' := by
  by_cases h5 : 0 ≤ a <;> by_cases h6 : b ≤ 3652059
  all_goals
    go_enter Tryz.func106, Tryz.ntmps106
    go_wp2
    all_goals
      go_ret2
      exact ⟨ret_ii (by unfold Pd.lo; first | rw [if_pos (by omega)] | (rw [if_neg (by omega)])) (by unfold Pd.hi; first | rw [if_pos (by omega)] | (rw [if_neg (by omega)])), rfl⟩
theorem tdiv7 {a : Int} (h : a % 7 = 0) : a.tdiv 7 = a / 7 := Int.tdiv_eq_ediv_of_dvd (by omega)
set_option maxHeartbeats 1000000 in
theorem index_any (f x s : Int) (w : World) (hT : Tab w) (f0 : 0 ≤ f) : Calls Tryz.prog 61 #[.int .u8 f, .int .i64 x, .int .i64 s] w fun e w' => e = .returned (.int .i64 (Pd.index f x s)) ∧ w = w' := by
  have HT := Lib.hid hT
  clear hT
  by_cases hc : Pd.counts f x = true
  · obtain ⟨c1, c2, c3⟩ := (Pd.counts_iff f x).1 hc
    by_cases s1 : 0 ≤ s
    · by_cases s2 : s ≤ 315537897599
      · have hi : Pd.index f x s = Pd.num f x s := by unfold Pd.index; rw [if_pos ⟨hc, s1, s2⟩]
        have Hi := Lib.hid hi
        clear hi
        have hu0 : Pd.unit 0 = 1 := rfl
        have hu1 : Pd.unit 1 = 60 := rfl
        have hu2 : Pd.unit 2 = 3600 := rfl
        have hu3 : Pd.unit 3 = 86400 := rfl
        have d1 : 0 ≤ s / 86400 := by omega
        have d2 : s / 86400 ≤ 3652058 := by omega
        have hx := (Wk.isStart_iff x).2 ⟨c2, by omega⟩
        have hb : Wk.begin (s / 86400) x = s / 86400 - Wk.back (s / 86400) x := by unfold Wk.begin; rw [if_pos ⟨hx, d1, d2⟩]
        have bb := Wk.back_bd (s / 86400) x
        have ht := tdiv7 (a := s / 86400 - Wk.back (s / 86400) x - x) (by unfold Wk.back; omega)
        obtain ⟨y1, y2, m1, m2, _, _, _⟩ := Civ.date_spec d1 d2
        have hf : f = 0 ∨ f = 1 ∨ f = 2 ∨ f = 3 ∨ f = 4 ∨ f = 5 ∨ f = 6 := by omega
        rcases hf with rfl | rfl | rfl | rfl | rfl | rfl | rfl
        all_goals
          go_enter Tryz.func61, Tryz.ntmps61
          go_wp2_with (first | (go_at_call 97; refine (counts_any _ _ _).mono ?_; rintro e w' ⟨rfl, rfl⟩) | (go_at_call 98; refine (unit_any _ _ (by omega) (by omega)).mono ?_; rintro e w' ⟨rfl, rfl⟩) | (go_at_call 99; refine (begin_any _ _ _).mono ?_; rintro e w' ⟨rfl, rfl⟩) | (go_at_call 100; refine (date_any _ _ HT.out).mono ?_; rintro e w' ⟨rfl, rfl⟩))
          go_ret
          exact ⟨ret_i (by rw [Hi.out]; simp [Pd.num, Pd.unit]), rfl⟩
      · go_enter Tryz.func61, Tryz.ntmps61
        go_wp2_with (first | (go_at_call 97; refine (counts_any _ _ _).mono ?_; rintro e w' ⟨rfl, rfl⟩))
        go_ret
        exact ⟨ret_i (by unfold Pd.index; rw [if_neg (by omega)]), rfl⟩
    · go_enter Tryz.func61, Tryz.ntmps61
      go_wp2_with (first | (go_at_call 97; refine (counts_any _ _ _).mono ?_; rintro e w' ⟨rfl, rfl⟩))
      go_ret
      exact ⟨ret_i (by unfold Pd.index; rw [if_neg (by omega)]), rfl⟩
  · go_enter Tryz.func61, Tryz.ntmps61
    go_wp2_with (first | (go_at_call 97; refine (counts_any _ _ _).mono ?_; rintro e w' ⟨rfl, rfl⟩))
    go_ret
    exact ⟨ret_i (by unfold Pd.index; rw [if_neg (fun h => hc h.1)]), rfl⟩
theorem last_any (f x : Int) (w : World) (hT : Tab w) (f0 : 0 ≤ f) : Calls Tryz.prog 90 #[.int .u8 f, .int .i64 x] w fun e w' => e = .returned (.int .i64 (Pd.last f x)) ∧ w = w' := by
  have HT := Lib.hid hT
  clear hT
  go_enter Tryz.func90, Tryz.ntmps90
  go_wp2_with (first | (go_at_call 61; refine (index_any _ _ _ _ HT.out f0).mono ?_; rintro e w' ⟨rfl, rfl⟩))
  go_ret
  exact ⟨rfl, rfl⟩
set_option maxHeartbeats 2000000 in
theorem stretch_any (f x i : Int) (w : World) (hT : Tab w) (f0 : 0 ≤ f) : Calls Tryz.prog 68 #[.int .u8 f, .int .i64 x, .int .i64 i] w fun e w' => e = .returned (.tuple #[.int .i64 (Pd.frm f x i), .int .i64 (Pd.to f x i)]) ∧ w = w' := by
  have HT := Lib.hid hT
  clear hT
  by_cases hc : Pd.counts f x = true
  · obtain ⟨c1, c2, c3⟩ := (Pd.counts_iff f x).1 hc
    by_cases i1 : Pd.index f x 0 ≤ i
    · by_cases i2 : i ≤ Pd.last f x
      · have hF : Pd.frm f x i = if f ≤ 3 then i * Pd.unit f else Pd.lo (Pd.day0 f x i) := by unfold Pd.frm; rw [if_pos ⟨hc, i1, i2⟩]
        have hL : Pd.to f x i = if f ≤ 3 then (i + 1) * Pd.unit f else Pd.hi (Pd.day1 f x i) := by unfold Pd.to; rw [if_pos ⟨hc, i1, i2⟩]
        have HF := Lib.hid hF
        have HL := Lib.hid hL
        clear hF hL
        have hu0 : Pd.unit 0 = 1 := rfl
        have hu1 : Pd.unit 1 = 60 := rfl
        have hu2 : Pd.unit 2 = 3600 := rfl
        have hu3 : Pd.unit 3 = 86400 := rfl
        obtain ⟨r0, r1, r2, r3, r4, r5, r6⟩ := Pd.idx_rng hc f0 i1 i2
        have hf : f = 0 ∨ f = 1 ∨ f = 2 ∨ f = 3 ∨ f = 4 ∨ f = 5 ∨ f = 6 := by omega
        rcases hf with rfl | rfl | rfl | rfl | rfl | rfl | rfl
        · obtain ⟨a1, a2⟩ := r0 rfl
          clear r0 r1 r2 r3 r4 r5 r6
          go_enter Tryz.func68, Tryz.ntmps68
          go_wp2_with (first | (go_at_call 97; refine (counts_any _ _ _).mono ?_; rintro e w' ⟨rfl, rfl⟩) | (go_at_call 61; refine (index_any _ _ _ _ HT.out f0).mono ?_; rintro e w' ⟨rfl, rfl⟩) | (go_at_call 90; refine (last_any _ _ _ HT.out f0).mono ?_; rintro e w' ⟨rfl, rfl⟩) | (go_at_call 98; refine (unit_any _ _ (by omega) (by omega)).mono ?_; rintro e w' ⟨rfl, rfl⟩))
          go_ret2
          exact ⟨ret_ii (by rw [HF.out]; simp [Pd.unit]) (by rw [HL.out]; simp [Pd.unit]), rfl⟩
        · obtain ⟨a1, a2⟩ := r1 rfl
          clear r0 r1 r2 r3 r4 r5 r6
          go_enter Tryz.func68, Tryz.ntmps68
          go_wp2_with (first | (go_at_call 97; refine (counts_any _ _ _).mono ?_; rintro e w' ⟨rfl, rfl⟩) | (go_at_call 61; refine (index_any _ _ _ _ HT.out f0).mono ?_; rintro e w' ⟨rfl, rfl⟩) | (go_at_call 90; refine (last_any _ _ _ HT.out f0).mono ?_; rintro e w' ⟨rfl, rfl⟩) | (go_at_call 98; refine (unit_any _ _ (by omega) (by omega)).mono ?_; rintro e w' ⟨rfl, rfl⟩))
          go_ret2
          exact ⟨ret_ii (by rw [HF.out]; simp [Pd.unit]) (by rw [HL.out]; simp [Pd.unit]), rfl⟩
        · obtain ⟨a1, a2⟩ := r2 rfl
          clear r0 r1 r2 r3 r4 r5 r6
          go_enter Tryz.func68, Tryz.ntmps68
          go_wp2_with (first | (go_at_call 97; refine (counts_any _ _ _).mono ?_; rintro e w' ⟨rfl, rfl⟩) | (go_at_call 61; refine (index_any _ _ _ _ HT.out f0).mono ?_; rintro e w' ⟨rfl, rfl⟩) | (go_at_call 90; refine (last_any _ _ _ HT.out f0).mono ?_; rintro e w' ⟨rfl, rfl⟩) | (go_at_call 98; refine (unit_any _ _ (by omega) (by omega)).mono ?_; rintro e w' ⟨rfl, rfl⟩))
          go_ret2
          exact ⟨ret_ii (by rw [HF.out]; simp [Pd.unit]) (by rw [HL.out]; simp [Pd.unit]), rfl⟩
        · obtain ⟨a1, a2⟩ := r3 rfl
          clear r0 r1 r2 r3 r4 r5 r6
          go_enter Tryz.func68, Tryz.ntmps68
          go_wp2_with (first | (go_at_call 97; refine (counts_any _ _ _).mono ?_; rintro e w' ⟨rfl, rfl⟩) | (go_at_call 61; refine (index_any _ _ _ _ HT.out f0).mono ?_; rintro e w' ⟨rfl, rfl⟩) | (go_at_call 90; refine (last_any _ _ _ HT.out f0).mono ?_; rintro e w' ⟨rfl, rfl⟩) | (go_at_call 98; refine (unit_any _ _ (by omega) (by omega)).mono ?_; rintro e w' ⟨rfl, rfl⟩))
          go_ret2
          exact ⟨ret_ii (by rw [HF.out]; simp [Pd.unit]) (by rw [HL.out]; simp [Pd.unit]), rfl⟩
        · obtain ⟨a1, a2⟩ := r4 rfl
          clear r0 r1 r2 r3 r4 r5 r6
          go_enter Tryz.func68, Tryz.ntmps68
          go_wp2_with (first | (go_at_call 97; refine (counts_any _ _ _).mono ?_; rintro e w' ⟨rfl, rfl⟩) | (go_at_call 61; refine (index_any _ _ _ _ HT.out f0).mono ?_; rintro e w' ⟨rfl, rfl⟩) | (go_at_call 90; refine (last_any _ _ _ HT.out f0).mono ?_; rintro e w' ⟨rfl, rfl⟩) | (go_at_call 106; refine (clip_any _ _ _ (by omega) (by omega) (by omega) (by omega)).mono ?_; rintro e w' ⟨rfl, rfl⟩))
          go_ret2
          exact ⟨ret_ii (by rw [HF.out]; simp [Pd.day0]) (by rw [HL.out]; simp [Pd.day1]), rfl⟩
        · obtain ⟨a1, a2⟩ := r5 rfl
          clear r0 r1 r2 r3 r4 r5 r6
          have lg := Civ.len_ge (y := i / 12) (m := i % 12 + 1) (by omega) (by omega) (by omega) (by omega)
          have lb := Civ.len_bd (i / 12) (i % 12 + 1)
          have hdo := Civ.date_of (y := i / 12) (m := i % 12 + 1) (d := 1) (by omega) (by omega) (by omega) (by omega) (by omega) (by omega)
          have hdd := (Civ.day_of (y := i / 12) (m := i % 12 + 1) (d := 1) (by omega) (by omega)).1
          rw [← hdd] at hdo
          obtain ⟨q1, q2, _, _⟩ := hdo
          clear hdd
          go_enter Tryz.func68, Tryz.ntmps68
          go_wp2_with (first | (go_at_call 97; refine (counts_any _ _ _).mono ?_; rintro e w' ⟨rfl, rfl⟩) | (go_at_call 61; refine (index_any _ _ _ _ HT.out f0).mono ?_; rintro e w' ⟨rfl, rfl⟩) | (go_at_call 90; refine (last_any _ _ _ HT.out f0).mono ?_; rintro e w' ⟨rfl, rfl⟩) | (go_at_call 107; refine (days_any _ _).mono ?_; rintro e w' ⟨rfl, rfl⟩) | (go_at_call 108; refine (len_any _ _ _ HT.out).mono ?_; rintro e w' ⟨rfl, rfl⟩) | (go_at_call 109; refine (day_any _ _ _ _ HT.out).mono ?_; rintro e w' ⟨rfl, rfl⟩) | (go_at_call 106; refine (clip_any _ _ _ (by omega) (by omega) (by omega) (by omega)).mono ?_; rintro e w' ⟨rfl, rfl⟩))
          go_ret2
          exact ⟨ret_ii (by rw [HF.out]; simp [Pd.day0]) (by rw [HL.out]; simp [Pd.day1]), rfl⟩
        · obtain ⟨a1, a2⟩ := r6 rfl
          clear r0 r1 r2 r3 r4 r5 r6
          have lg := Civ.len_ge (y := i) (m := 1) (by omega) (by omega) (by omega) (by omega)
          have hdo := Civ.date_of (y := i) (m := 1) (d := 1) (by omega) (by omega) (by omega) (by omega) (by omega) (by omega)
          have hdd := (Civ.day_of (y := i) (m := 1) (d := 1) (by omega) (by omega)).1
          rw [← hdd] at hdo
          obtain ⟨q1, q2, _, _⟩ := hdo
          have hys := Civ.days_eq (y := i) (by omega) (by omega)
          have ho := Civ.one_bd i
          have hyb : 365 ≤ Civ.days i ∧ Civ.days i ≤ 366 := by omega
          clear hdd hys
          go_enter Tryz.func68, Tryz.ntmps68
          go_wp2_with (first | (go_at_call 97; refine (counts_any _ _ _).mono ?_; rintro e w' ⟨rfl, rfl⟩) | (go_at_call 61; refine (index_any _ _ _ _ HT.out f0).mono ?_; rintro e w' ⟨rfl, rfl⟩) | (go_at_call 90; refine (last_any _ _ _ HT.out f0).mono ?_; rintro e w' ⟨rfl, rfl⟩) | (go_at_call 107; refine (days_any _ _).mono ?_; rintro e w' ⟨rfl, rfl⟩) | (go_at_call 108; refine (len_any _ _ _ HT.out).mono ?_; rintro e w' ⟨rfl, rfl⟩) | (go_at_call 109; refine (day_any _ _ _ _ HT.out).mono ?_; rintro e w' ⟨rfl, rfl⟩) | (go_at_call 106; refine (clip_any _ _ _ (by omega) (by omega) (by omega) (by omega)).mono ?_; rintro e w' ⟨rfl, rfl⟩))
          go_ret2
          exact ⟨ret_ii (by rw [HF.out]; simp [Pd.day0]) (by rw [HL.out]; simp [Pd.day1]), rfl⟩
      · go_enter Tryz.func68, Tryz.ntmps68
        go_wp2_with (first | (go_at_call 97; refine (counts_any _ _ _).mono ?_; rintro e w' ⟨rfl, rfl⟩) | (go_at_call 61; refine (index_any _ _ _ _ HT.out f0).mono ?_; rintro e w' ⟨rfl, rfl⟩) | (go_at_call 90; refine (last_any _ _ _ HT.out f0).mono ?_; rintro e w' ⟨rfl, rfl⟩))
        go_ret2
        exact ⟨ret_ii (by unfold Pd.frm; rw [if_neg (by omega)]) (by unfold Pd.to; rw [if_neg (by omega)]), rfl⟩
    · go_enter Tryz.func68, Tryz.ntmps68
      go_wp2_with (first | (go_at_call 97; refine (counts_any _ _ _).mono ?_; rintro e w' ⟨rfl, rfl⟩) | (go_at_call 61; refine (index_any _ _ _ _ HT.out f0).mono ?_; rintro e w' ⟨rfl, rfl⟩))
      go_ret2
      exact ⟨ret_ii (by unfold Pd.frm; rw [if_neg (by omega)]) (by unfold Pd.to; rw [if_neg (by omega)]), rfl⟩
  · go_enter Tryz.func68, Tryz.ntmps68
    go_wp2_with (first | (go_at_call 97; refine (counts_any _ _ _).mono ?_; rintro e w' ⟨rfl, rfl⟩))
    go_ret2
    exact ⟨ret_ii (by unfold Pd.frm; rw [if_neg (fun h => hc h.1)]) (by unfold Pd.to; rw [if_neg (fun h => hc h.1)]), rfl⟩
end Go.Proofs.YtkbohijlhhpfbaaGreatDoor.Cw
