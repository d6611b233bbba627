/- The walk of the law WeekFour. -/
import Derived.Test.YtlkndpoffbmhaaaDoorWl
import Derived.Test.YtlkndpoffbmhaaaDoorWkb
namespace Go.Proofs.YtlkndpoffbmhaaaDoor.Wl
open Go.RowKit Cw
set_option maxHeartbeats 1000000 in
set_option maxRecDepth 100000 in
theorem weekFour_any (year x at_ : Int) (w : World) (hT : Tab w) (h1 : 0 ≤ year) (h2 : year ≤ 65535) (h3 : 0 ≤ x) (h4 : x ≤ 255) (h5 : 0 ≤ at_) (h6 : at_ ≤ 65535) : Calls Tryd.prog 10 #[.int .u16 year, .int .u8 x, .int .u16 at_] w fun e w' => e = .returned (.bool true) ∧ Below w.heap.size w w' := by
  have HT := Lib.hid hT
  clear hT
  obtain ⟨y, hy⟩ : ∃ y : Int, y = 2 + year % 9997 := ⟨_, rfl⟩
  obtain ⟨v, hv⟩ : ∃ v : Int, v = x % 7 := ⟨_, rfl⟩
  have y1 : 2 ≤ y := by omega
  have y2 : y ≤ 9998 := by omega
  have v1 : 0 ≤ v := by omega
  have v2 : v < 7 := by omega
  have hyk : 2 + year % 9997 = y := hy.symm
  have hvk : x % 7 = v := hv.symm
  clear hy hv
  have hs := (Wk.isStart_iff v).2 ⟨v1, v2⟩
  have l1 := Civ.len_ge (y := y) (m := 1) (by omega) (by omega) (by omega) (by omega)
  obtain ⟨c1, c2⟩ := Civ.day_of (y := y) (m := 1) (d := 1) (by omega) (by omega)
  rw [Civ.til_first] at c1
  have hd := Civ.days_eq (y := y) (by omega) (by omega)
  have o := Civ.one_bd y
  have ha := Civ.ahead_succ (y := y) (by omega) (by omega)
  have g1 := Civ.ahead_mono (y := 2) (z := y) y1
  have g2 := Civ.ahead_mono (y := y + 1) (z := 9999) (by omega)
  have g3 : Civ.ahead 2 = 365 := by decide
  have g4 : Civ.ahead 9999 = 3651694 := by decide
  obtain ⟨f1, f2, f3, f4⟩ := Wk.ends y1 y2 v1 v2
  have wb := weeks_bd v1 v2 (by omega : 0 ≤ y) (by omega : y ≤ 10000)
  obtain ⟨A, hA⟩ : ∃ A : Int, A = Civ.ahead y := ⟨_, rfl⟩
  obtain ⟨D, hD⟩ : ∃ D : Int, D = Civ.days y := ⟨_, rfl⟩
  obtain ⟨W, hW⟩ : ∃ W : Int, W = Wk.weeks y v := ⟨_, rfl⟩
  rw [← hA] at c1 f1 f2 f3 f4 g1 ha
  rw [← hD] at f3 f4 hd
  rw [← hW] at f4 wb
  have c1' : Civ.day y 1 1 = A := by omega
  have D1 : 365 ≤ D := by omega
  have D2 : D ≤ 366 := by omega
  have A1 : 365 ≤ A := by omega
  have A2 : A + D ≤ 3651694 := by omega
  have hD' : Civ.days y = D := hD.symm
  have hW' : Wk.weeks y v = W := hW.symm
  obtain ⟨n, hn⟩ : ∃ n : Int, n = A + at_ % D := ⟨_, rfl⟩
  have hr : 0 ≤ at_ % D ∧ at_ % D < D := ⟨Int.emod_nonneg _ (by omega), Int.emod_lt_of_pos _ (by omega)⟩
  have n1 : 365 ≤ n := by omega
  have n2 : n ≤ 3651693 := by omega
  have hn' : A + at_ % D = n := hn.symm
  obtain ⟨s1, s2, s3, s4, s5, s6⟩ := Wk.year_spec v (by omega : 0 ≤ n) (by omega : n ≤ 3652058)
  have hc := Lib.hid (Wk.cnt_four (w := v) n1 n2)
  have eY : Wk.numY n v = Wk.year n v := by unfold Wk.numY; rw [if_pos ⟨hs, by omega, by omega⟩]
  have eB : Wk.begin n v = n - Wk.back n v := by unfold Wk.begin; rw [if_pos ⟨hs, by omega, by omega⟩]
  have hb := Wk.back_bd n v
  have hr1 := hr.1
  have hr2 := hr.2
  clear c1 hd o ha g1 g2 g3 g4 hA hD hW l1 hn hr s1 s2 s3 s4
  have F1 := Lib.hid f1
  have F2 := Lib.hid f2
  have F3 := Lib.hid f3
  have F4 := Lib.hid f4
  have W' := Lib.hid hW'
  clear f1 f2 f3 f4 hW'
  go_enter Tryd.func10, Tryd.ntmps10
  go_wp2_with (first | (go_at_call 11; refine (day_any _ _ _ _ HT.out).mono ?_; rintro e w' ⟨rfl, rfl⟩) | (go_at_call 15; refine (days_any _ _).mono ?_; rintro e w' ⟨rfl, rfl⟩) | (go_at_call 26; refine (number_any _ _ _ HT.out).mono ?_; rintro e w' ⟨rfl, rfl⟩) | (go_at_call 28; refine (begin_any _ _ _).mono ?_; rintro e w' ⟨rfl, rfl⟩))
  go_loop [14, 15] (fun c i => ∃ k : Nat, k ≤ 7 ∧ i = .int .i64 k ∧ c = .int .i64 (Wk.cnt (Wk.year n v) (n - Wk.back n v) k)) (fun _ i => 7 - (intOf i).toNat)
  case atStart => exact ⟨0, by omega, rfl, rfl⟩
  case round =>
    obtain ⟨k, k1, rfl, rfl⟩ := hrel
    have cb := Wk.cnt_bd (Wk.year n v) (n - Wk.back n v) k
    by_cases hlt : k < 7
    · have eD : Civ.dateE (n - Wk.back n v + (k : Int)) = 0 := Civ.dateE_of (by omega) (by omega)
      cases ht : (Civ.dateY (n - Wk.back n v + (k : Int)) == Wk.year n v)
      · have hs := Lib.hid (show Wk.cnt (Wk.year n v) (n - Wk.back n v) (k + 1) = Wk.cnt (Wk.year n v) (n - Wk.back n v) k by
          show _ + (if Civ.dateY (n - Wk.back n v + (k : Int)) = Wk.year n v then 1 else 0) = _
          rw [if_neg (by simpa using ht)]; omega)
        go_wp2_with (first | (go_at_call 28; refine (begin_any _ _ _).mono ?_; rintro e w' ⟨rfl, rfl⟩) | (go_at_call 20; refine (date_any _ _ HT.out).mono ?_; rintro e w' ⟨rfl, rfl⟩))
        go_round
        case rel => exact ⟨k + 1, by omega, by go_num, by rw [hs.out]⟩
        case measure => simp [intOf]; omega
      · have hs := Lib.hid (show Wk.cnt (Wk.year n v) (n - Wk.back n v) (k + 1) = Wk.cnt (Wk.year n v) (n - Wk.back n v) k + 1 by
          show _ + (if Civ.dateY (n - Wk.back n v + (k : Int)) = Wk.year n v then 1 else 0) = _
          rw [if_pos (by simpa using ht)])
        go_wp2_with (first | (go_at_call 28; refine (begin_any _ _ _).mono ?_; rintro e w' ⟨rfl, rfl⟩) | (go_at_call 20; refine (date_any _ _ HT.out).mono ?_; rintro e w' ⟨rfl, rfl⟩))
        go_round
        case rel => exact ⟨k + 1, by omega, by go_num, by rw [hs.out]⟩
        case measure => simp [intOf]; omega
    · obtain rfl : k = 7 := by omega
      have hc := hc.out
      have f1 := F1.out
      have f2 := F2.out
      have f3 := F3.out
      have f4 := F4.out
      have w' := W'.out
      go_wp2_with (first | (go_at_call 15; refine (days_any _ _).mono ?_; rintro e w' ⟨rfl, rfl⟩) | (go_at_call 26; refine (number_any _ _ _ HT.out).mono ?_; rintro e w' ⟨rfl, rfl⟩) | (go_at_call 35; refine (weeks_any _ _ _).mono ?_; rintro e w' ⟨rfl, rfl⟩) | (go_at_call 32; refine (awake_any _ HT.out).mono ?_; rintro e w' ⟨rfl, rfl⟩))
      go_ret
      exact ⟨rfl, Below.refl _ _⟩
end Go.Proofs.YtlkndpoffbmhaaaDoor.Wl
