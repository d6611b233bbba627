/- The walks of the laws of chapter 10. -/
import Derived.Test.YtlkndpoffbmhaaaDoorWr
namespace Go.Proofs.YtlkndpoffbmhaaaDoor.Wk
open Civ
theorem fst_le_first {n : Int} (w : Int) (h1 : 0 ≤ n) (h2 : n < 3652058) :
    (n + 1 - w) % 7 ≠ 0 ∧ year (n + 1) w = year n w ∧ (n + 1 - fst (year (n + 1) w) w) / 7 = (n - fst (year n w) w) / 7 ∧ back (n + 1) w = back n w + 1
    ∨ (n + 1 - w) % 7 = 0 ∧ back (n + 1) w = 0 ∧ (n - fst (year n w) w) / 7 + 1 = (fst (year n w + 1) w - fst (year n w) w) / 7 ∧ year (n + 1) w = year n w + 1 ∧ (n + 1 - fst (year (n + 1) w) w) / 7 = 0
    ∨ (n + 1 - w) % 7 = 0 ∧ back (n + 1) w = 0 ∧ (n - fst (year n w) w) / 7 + 1 ≠ (fst (year n w + 1) w - fst (year n w) w) / 7 ∧ year (n + 1) w = year n w ∧ (n + 1 - fst (year (n + 1) w) w) / 7 = (n - fst (year n w) w) / 7 + 1 := by
  obtain ⟨s1, s2, s3, s4, s5, s6⟩ := year_spec w h1 (by omega : n ≤ 3652058)
  obtain ⟨t1, t2, t3, t4, t5, t6⟩ := year_spec (n := n + 1) w (by omega) (by omega)
  have m1 := fst_mod (year n w) w
  have m2 := fst_mod (year n w + 1) w
  have hb : back n w = (n - w) % 7 := rfl
  have hb' : back (n + 1) w = (n + 1 - w) % 7 := rfl
  have hm3 := fst_mono (w := w) (y := year n w + 1) (z := year n w + 1 + 1) (by omega)
  by_cases hG : n + 1 < fst (year n w + 1) w
  · have hy := year_unique t1 t2 (by omega : fst (year n w) w ≤ n + 1) hG
    rw [hy, hb, hb']
    generalize fst (year n w) w = F at *
    generalize fst (year n w + 1) w = G at *
    clear hb hb' t1 t2 t3 t4 t5 t6 hy
    by_cases hw : (n + 1 - w) % 7 = 0
    · exact .inr (.inr ⟨hw, by omega, by omega, rfl, by omega⟩)
    · exact .inl ⟨hw, rfl, by omega, by omega⟩
  · have hy := year_unique t1 t2 (by omega : fst (year n w + 1) w ≤ n + 1) (by omega)
    rw [hy, hb, hb']
    generalize fst (year n w) w = F at *
    generalize fst (year n w + 1) w = G at *
    clear hb hb' t1 t2 t3 t4 t5 t6 hy hm3
    exact .inr (.inl ⟨by omega, by omega, by omega, rfl, by omega⟩)
end Go.Proofs.YtlkndpoffbmhaaaDoor.Wk
namespace Go.Proofs.YtlkndpoffbmhaaaDoor.Wl
open Go.RowKit Cw
set_option maxHeartbeats 1000000 in
set_option maxRecDepth 100000 in
theorem awake_any (w : World) (hT : Tab w) : Calls Tryd.prog 32 #[] w fun e w' => e = .returned (.bool true) ∧ w = w' := by
  have HT := Lib.hid hT
  clear hT
  have e1 : Wk.numY 737790 0 = 2020 := by decide
  have e2 : Wk.numN 737790 0 = 53 := by decide
  have e3 : Wk.numY 719162 0 = 1970 := by decide
  have e4 : Wk.numN 719162 0 = 1 := by decide
  have e5 : Wk.numY 0 1 = 0 := by decide
  have e6 : Wk.numN 0 1 = 52 := by decide
  have e7 : Wk.backN 737790 0 = -1 := by decide
  have e8 : Wk.begin 719162 0 = 719159 := by decide
  have e9 : Wk.begin 0 6 = -1 := by decide
  have e10 : Wk.first 1 0 = 0 := by decide
  have e11 : Wk.weeks 2020 0 = 53 := by decide
  have e12 : Wk.weeks 2021 0 = 52 := by decide
  have e13 : Wk.weeks 2021 7 = 0 := by decide
  go_enter Tryd.func32, Tryd.ntmps32
  go_wp2_with (first | (go_at_call 26; refine (number_any _ _ _ HT.out).mono ?_; rintro e w' ⟨rfl, rfl⟩) | (go_at_call 30; refine (backN_any _ _ _ HT.out).mono ?_; rintro e w' ⟨rfl, rfl⟩) | (go_at_call 28; refine (begin_any _ _ _).mono ?_; rintro e w' ⟨rfl, rfl⟩) | (go_at_call 33; refine (first_any _ _ _).mono ?_; rintro e w' ⟨rfl, rfl⟩) | (go_at_call 35; refine (weeks_any _ _ _).mono ?_; rintro e w' ⟨rfl, rfl⟩))
  go_ret
  exact ⟨rfl, rfl⟩
set_option maxHeartbeats 1000000 in
theorem weekTells_any (n x : Int) (w : World) (hT : Tab w) : Calls Tryd.prog 7 #[.int .i64 n, .int .i64 x] w fun e w' => e = .returned (.bool true) ∧ Below w.heap.size w w' := by
  have HT := Lib.hid hT
  clear hT
  go_enter Tryd.func7, Tryd.ntmps7
  go_wp2_with (first | (go_at_call 26; refine (number_any _ _ _ HT.out).mono ?_; rintro e w' ⟨rfl, rfl⟩) | (go_at_call 27; refine (rNumber_any _ _ _).mono ?_; rintro e w' ⟨rfl, rfl⟩) | (go_at_call 30; refine (backN_any _ _ _ HT.out).mono ?_; rintro e w' ⟨rfl, rfl⟩) | (go_at_call 31; refine (rBack_any _ _ _).mono ?_; rintro e w' ⟨rfl, rfl⟩) | (go_at_call 28; refine (begin_any _ _ _).mono ?_; rintro e w' ⟨rfl, rfl⟩) | (go_at_call 29; refine (rBegin_any _ _ _).mono ?_; rintro e w' ⟨rfl, rfl⟩) | (go_at_call 32; refine (awake_any _ HT.out).mono ?_; rintro e w' ⟨rfl, rfl⟩))
  go_ret
  exact ⟨rfl, Below.refl _ _⟩
set_option maxHeartbeats 1000000 in
theorem weekYears_any (n x : Int) (w : World) (hT : Tab w) : Calls Tryd.prog 8 #[.int .i64 n, .int .i64 x] w fun e w' => e = .returned (.bool true) ∧ Below w.heap.size w w' := by
  have HT := Lib.hid hT
  clear hT
  go_enter Tryd.func8, Tryd.ntmps8
  go_wp2_with (first | (go_at_call 33; refine (first_any _ _ _).mono ?_; rintro e w' ⟨rfl, rfl⟩) | (go_at_call 34; refine (rFirst_any _ _ _).mono ?_; rintro e w' ⟨rfl, rfl⟩) | (go_at_call 35; refine (weeks_any _ _ _).mono ?_; rintro e w' ⟨rfl, rfl⟩) | (go_at_call 36; refine (rWeeks_any _ _ _).mono ?_; rintro e w' ⟨rfl, rfl⟩) | (go_at_call 32; refine (awake_any _ HT.out).mono ?_; rintro e w' ⟨rfl, rfl⟩))
  go_ret
  exact ⟨rfl, Below.refl _ _⟩
set_option maxHeartbeats 1000000 in
set_option maxRecDepth 100000 in
theorem weekGoes_any (k x : Int) (w : World) (hT : Tab w) (h1 : 0 ≤ k) (h2 : k ≤ 4294967295) (h3 : 0 ≤ x) (h4 : x ≤ 255) : Calls Tryd.prog 9 #[.int .u32 k, .int .u8 x] w fun e w' => e = .returned (.bool true) ∧ Below w.heap.size w w' := by
  have HT := Lib.hid hT
  clear hT
  obtain ⟨n, hn⟩ : ∃ n : Int, n = k % 3652058 := ⟨_, rfl⟩
  obtain ⟨v, hv⟩ : ∃ v : Int, v = x % 7 := ⟨_, rfl⟩
  have n1 : 0 ≤ n := by omega
  have n2 : n < 3652058 := by omega
  have v1 : 0 ≤ v := by omega
  have v2 : v < 7 := by omega
  have hnk : k % 3652058 = n := hn.symm
  have hvk : x % 7 = v := hv.symm
  clear hn hv
  have hs := (Wk.isStart_iff v).2 ⟨v1, v2⟩
  obtain ⟨s1, s2, s3, s4, s5, s6⟩ := Wk.year_spec v n1 (by omega : n ≤ 3652058)
  have hx := Wk.fst_le_first v n1 n2
  have eY : Wk.numY n v = Wk.year n v := by unfold Wk.numY; rw [if_pos ⟨hs, n1, by omega⟩]
  have eN : Wk.numN n v = (n - Wk.fst (Wk.year n v) v) / 7 + 1 := by unfold Wk.numN; rw [if_pos ⟨hs, n1, by omega⟩]
  have eY' : Wk.numY (n + 1) v = Wk.year (n + 1) v := by unfold Wk.numY; rw [if_pos ⟨hs, by omega, by omega⟩]
  have eN' : Wk.numN (n + 1) v = (n + 1 - Wk.fst (Wk.year (n + 1) v) v) / 7 + 1 := by unfold Wk.numN; rw [if_pos ⟨hs, by omega, by omega⟩]
  have eW : Wk.weeks (Wk.year n v) v = (Wk.fst (Wk.year n v + 1) v - Wk.fst (Wk.year n v) v) / 7 := by unfold Wk.weeks; rw [if_pos ⟨hs, s5, s6⟩]
  have eF : Wk.first (Wk.year n v) v = Wk.fst (Wk.year n v) v := by unfold Wk.first; rw [if_pos ⟨hs, s5, by omega⟩]
  have eB : Wk.begin n v = n - Wk.back n v := by unfold Wk.begin; rw [if_pos ⟨hs, n1, by omega⟩]
  have eB' : Wk.begin (n + 1) v = n + 1 - Wk.back (n + 1) v := by unfold Wk.begin; rw [if_pos ⟨hs, by omega, by omega⟩]
  have m1 := Wk.fst_mod (Wk.year n v) v
  have m2 := Wk.fst_mod (Wk.year n v + 1) v
  have hb : Wk.back n v = (n - v) % 7 := rfl
  have fb := Wk.fst_bd (Wk.year n v) v
  have ab := Wk.ahead_rng s5 (by omega : Wk.year n v ≤ 10002)
  have wb := weeks_bd v1 v2 s5 s6
  rw [eW] at wb
  obtain ⟨W, hW⟩ : ∃ W : Int, W = (Wk.fst (Wk.year n v + 1) v - Wk.fst (Wk.year n v) v) / 7 := ⟨_, rfl⟩
  obtain ⟨M, hM⟩ : ∃ M : Int, M = (n - Wk.fst (Wk.year n v) v) / 7 := ⟨_, rfl⟩
  obtain ⟨B, hB⟩ : ∃ B : Int, B = Wk.back n v := ⟨_, rfl⟩
  obtain ⟨F, hF⟩ : ∃ F : Int, F = Wk.fst (Wk.year n v) v := ⟨_, rfl⟩
  obtain ⟨Y, hY⟩ : ∃ Y : Int, Y = Wk.year n v := ⟨_, rfl⟩
  have q1 : 0 ≤ M ∧ M + 1 ≤ W := by omega
  have q2 : 0 ≤ B ∧ B ≤ 6 ∧ F + 7 * M = n - B := by omega
  rw [← hM] at eN
  rw [← hW] at eW wb
  rw [← hF] at eF fb
  rw [← hB] at eB
  have eBk : Wk.backN n v = M + 1 - 1 - W := by
    unfold Wk.backN
    rw [if_neg (by rw [eN]; omega), eN, eY, eW]
  rw [← hY] at *
  have wd : Civ.weekday (n + 1) = (n + 1) % 7 := Civ.weekday_of (by omega) (by omega)
  rw [← hM, ← hW, ← hB] at hx
  obtain ⟨q3, q4⟩ := q1
  obtain ⟨q5, q6, q7⟩ := q2
  have q8 : (F + 7 * M != n - B) = false := by rw [bne_eq_false_iff_eq]; exact q7
  have fb1 := fb.1
  have fb2 := fb.2
  have ab1 := ab.1
  have ab2 := ab.2
  have wb1 := wb.1
  have wb2 := wb.2
  clear s1 s2 s3 s4 m1 m2 hb hM hW hF hB hY fb ab wb
  rcases hx with ⟨a, b, c, d⟩ | ⟨a, b, c, d, f⟩ | ⟨a, b, c, d, f⟩
  · rw [c] at eN'
    rw [b] at eY'
    rw [d] at eB'
    have t1 : ((n + 1) % 7 != v) = true := by rw [bne_iff_ne]; omega
    clear b c d q7
    go_enter Tryd.func9, Tryd.ntmps9
    go_wp2_with (first | (go_at_call 26; refine (number_any _ _ _ HT.out).mono ?_; rintro e w' ⟨rfl, rfl⟩) | (go_at_call 30; refine (backN_any _ _ _ HT.out).mono ?_; rintro e w' ⟨rfl, rfl⟩) | (go_at_call 28; refine (begin_any _ _ _).mono ?_; rintro e w' ⟨rfl, rfl⟩) | (go_at_call 33; refine (first_any _ _ _).mono ?_; rintro e w' ⟨rfl, rfl⟩) | (go_at_call 35; refine (weeks_any _ _ _).mono ?_; rintro e w' ⟨rfl, rfl⟩) | (go_at_call 22; refine (weekday_any _ _).mono ?_; rintro e w' ⟨rfl, rfl⟩) | (go_at_call 32; refine (awake_any _ HT.out).mono ?_; rintro e w' ⟨rfl, rfl⟩))
    go_ret
    exact ⟨rfl, Below.refl _ _⟩
  · rw [f] at eN'
    rw [d] at eY'
    rw [b] at eB'
    have t1 : ((n + 1) % 7 != v) = false := by rw [bne_eq_false_iff_eq]; omega
    have t2 : (M + 1 == W) = true := by rw [beq_iff_eq]; exact c
    clear b c d f q7
    go_enter Tryd.func9, Tryd.ntmps9
    go_wp2_with (first | (go_at_call 26; refine (number_any _ _ _ HT.out).mono ?_; rintro e w' ⟨rfl, rfl⟩) | (go_at_call 30; refine (backN_any _ _ _ HT.out).mono ?_; rintro e w' ⟨rfl, rfl⟩) | (go_at_call 28; refine (begin_any _ _ _).mono ?_; rintro e w' ⟨rfl, rfl⟩) | (go_at_call 33; refine (first_any _ _ _).mono ?_; rintro e w' ⟨rfl, rfl⟩) | (go_at_call 35; refine (weeks_any _ _ _).mono ?_; rintro e w' ⟨rfl, rfl⟩) | (go_at_call 22; refine (weekday_any _ _).mono ?_; rintro e w' ⟨rfl, rfl⟩) | (go_at_call 32; refine (awake_any _ HT.out).mono ?_; rintro e w' ⟨rfl, rfl⟩))
    go_ret
    exact ⟨rfl, Below.refl _ _⟩
  · rw [f] at eN'
    rw [d] at eY'
    rw [b] at eB'
    have t1 : ((n + 1) % 7 != v) = false := by rw [bne_eq_false_iff_eq]; omega
    have t2 : (M + 1 == W) = false := by rw [beq_eq_false_iff_ne]; exact c
    clear b c d f q7
    go_enter Tryd.func9, Tryd.ntmps9
    go_wp2_with (first | (go_at_call 26; refine (number_any _ _ _ HT.out).mono ?_; rintro e w' ⟨rfl, rfl⟩) | (go_at_call 30; refine (backN_any _ _ _ HT.out).mono ?_; rintro e w' ⟨rfl, rfl⟩) | (go_at_call 28; refine (begin_any _ _ _).mono ?_; rintro e w' ⟨rfl, rfl⟩) | (go_at_call 33; refine (first_any _ _ _).mono ?_; rintro e w' ⟨rfl, rfl⟩) | (go_at_call 35; refine (weeks_any _ _ _).mono ?_; rintro e w' ⟨rfl, rfl⟩) | (go_at_call 22; refine (weekday_any _ _).mono ?_; rintro e w' ⟨rfl, rfl⟩) | (go_at_call 32; refine (awake_any _ HT.out).mono ?_; rintro e w' ⟨rfl, rfl⟩))
    go_ret
    exact ⟨rfl, Below.refl _ _⟩
end Go.Proofs.YtlkndpoffbmhaaaDoor.Wl
