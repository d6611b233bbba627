/- The walks of the laws MomentParses, MomentBack and MomentOrder. -/
import Derived.Test.YtbjiiejgepgdeaaDoorMn
import Derived.Test.YtbjiiejgepgdeaaDoorMp
namespace Go.Proofs.YtbjiiejgepgdeaaDoor.Ma
open Go.RowKit Mo Ut Cw
theorem eqR (a b c d : Int) (W : World) : (Op.equalIn 10000 28 (.agg #[.int .u8 a, .int .i64 b]) (.agg #[.int .u8 c, .int .i64 d])).run Tryd.prog W = .ok (decide (a = c) && decide (b = d)) W := by
  rw [run_equalIn_struct W 9999 _ _ _ (by kernel_rfl) (by kernel_rfl)]
  by_cases h1 : a = c <;> by_cases h2 : b = d <;> simp [go_sem, Tryd.underlying28, Tryd.underlying3, Tryd.underlying5, h1, h2]
attribute [local go_sem] eqV eqR
set_option maxHeartbeats 2000000 in
theorem momentParses_any (s : ByteArray) (w : World) (hT : Tab w) : Calls Tryd.prog 3 #[.string s] w fun e w' => e = .returned (.bool true) ∧ Below w.heap.size w w' := by
  have HT := Lib.hid hT
  clear hT
  by_cases hl : 40 < s.size
  · go_enter Tryd.func3, Tryd.ntmps3
    go_wp2_with (first | (go_at_call 7; refine (awake_any _ HT.out).mono ?_; rintro e w1 ⟨rfl, hB⟩))
    go_ret
    exact ⟨rfl, hB⟩
  · obtain ⟨k, t, c, he⟩ : ∃ k t c, pM (bts s) = (k, t, c) := ⟨_, _, _, rfl⟩
    have P : Hid (∀ w, Tab w → Calls Tryd.prog 8 #[.string s] w fun e w' => e = .returned (.tuple #[.agg #[.int .u8 k, .int .i64 t], .int .i64 c]) ∧ Below w.heap.size w w') := Lib.hid fun w hT => by
      have := parse_any (bts s) (by rw [bts_len]; omega) w hT
      rw [he] at this; exact this
    have R : Hid (∀ w, Calls Tryd.prog 9 #[.string s] w fun e w' => e = .returned (.tuple #[.agg #[.int .u8 k, .int .i64 t], .int .i64 c]) ∧ Below w.heap.size w w') := Lib.hid fun w => by
      have := rparse_any (bts s) (by rw [bts_len]; omega) w
      rw [he] at this; exact this
    clear he
    go_enter Tryd.func3, Tryd.ntmps3
    go_wp2_with (first
      | (go_at_call 8; refine (P.out _ HT.out).mono ?_; rintro e w1 ⟨rfl, hB1⟩)
      | (go_at_call 9; refine (R.out _).mono ?_; rintro e w2 ⟨rfl, hB2⟩; obtain ⟨l2, v0, v1⟩ := boxed hB2; have hb2 := Below.next_allocs hB1 hB2)
      | (go_at_call 7; refine (awake_any _ (HT.out.later (Below.next_alloc hb2 _))).mono ?_; rintro e w3 ⟨rfl, hB3⟩; have hb3 := Below.next_allocs hb2 hB3))
    go_ret
    exact ⟨rfl, hb3⟩
theorem chk_sec {k t : Int} (h : why k t = 0) : chk k (secOf k t) = 0 ∧ why k (secOf k t) = 0 := by
  have hb := why_le h
  have h0 : 0 ≤ secOf k t ∧ secOf k t ≤ 315537897599 := by unfold secOf; split <;> omega
  have hw := why_in hb.1 hb.2.1 h0.1 h0.2
  refine ⟨?_, hw⟩
  rw [chk_in hw]
  by_cases h1 : k = 1
  · have : secOf k t % 86400 = 0 := by unfold secOf; rw [if_pos h1]; omega
    rw [if_neg (by omega)]
  · rw [if_neg (by omega)]
theorem pM_err {L : List UInt8} {k t c : Int} (he : pM L = (k, t, c)) (hc : c ≠ 0) : k = 0 ∧ t = 0 := by
  unfold pM at he
  split at he
  · simp at he; omega
  · unfold two at he
    split at he
    · unfold mk at he
      split at he
      · simp at he; omega
      · simp at he; omega
    · simp at he; omega
theorem pM_bd {L : List UInt8} {k t : Int} (he : pM L = (k, t, 0)) : 0 ≤ k ∧ k ≤ 255 := by
  have := why_le (chk_in' (print_parse he).1)
  omega
set_option maxHeartbeats 4000000 in
set_option maxRecDepth 100000 in
theorem momentBack_any (x z : Int) (s : ByteArray) (w : World) (hT : Tab w) (x0 : 0 ≤ x) (x1 : x ≤ 255) (z0 : 0 ≤ z) (z1 : z ≤ 18446744073709551615) : Calls Tryd.prog 5 #[.int .u8 x, .int .u64 z, .string s] w fun e w' => e = .returned (.bool true) ∧ Below w.heap.size w w' := by
  have HT := Lib.hid hT
  clear hT
  by_cases hl : 40 < s.size
  · go_enter Tryd.func5, Tryd.ntmps5
    go_wp2_with (first | (go_at_call 7; refine (awake_any _ HT.out).mono ?_; rintro e w1 ⟨rfl, hB⟩))
    go_ret
    exact ⟨rfl, hB⟩
  · have hw : why (1 + x % 3) (z % 315537897600) = 0 := why_in (by omega) (by omega) (by omega) (by omega)
    have hA := fun w => at_any (1 + x % 3) (z % 315537897600) (by omega) w
    obtain ⟨S, hS⟩ : ∃ S, S = secOf (1 + x % 3) (z % 315537897600) := ⟨_, rfl⟩
    have hcs := chk_sec hw
    rw [← hS] at hcs
    have hbs := why_le hcs.2
    obtain ⟨t1, ht1⟩ : ∃ t1, t1 = str (text (1 + x % 3) S) := ⟨_, rfl⟩
    have FA : Hid (∀ w, Calls Tryd.prog 14 #[.int .u8 (1 + x % 3), .int .i64 (z % 315537897600)] w fun e w' => e = .returned (.tuple #[.agg #[.int .u8 (1 + x % 3), .int .i64 S], .int .i64 0]) ∧ Below w.heap.size w w') := Lib.hid fun w => by
      have := hA w
      rw [hw, atV_in hw, ← hS] at this; exact this
    have FP : Hid (∀ w, Tab w → Calls Tryd.prog 10 #[.agg #[.int .u8 (1 + x % 3), .int .i64 S]] w fun e w' => e = .returned (.tuple #[.string t1, .int .i64 0]) ∧ Below w.heap.size w w') := Lib.hid fun w hT => by
      have := print_any (1 + x % 3) S (by omega) w hT
      rw [hcs.1, show prM (1 + x % 3) S = text (1 + x % 3) S by unfold prM; rw [if_pos hcs.1], ← ht1] at this; exact this
    have FQ : Hid (∀ w, Tab w → Calls Tryd.prog 8 #[.string t1] w fun e w' => e = .returned (.tuple #[.agg #[.int .u8 (1 + x % 3), .int .i64 S], .int .i64 0]) ∧ Below w.heap.size w w') := Lib.hid fun w hT => by
      have := parse_any (text (1 + x % 3) S) (by unfold text; simp only [List.length_append, wid_len]; split <;> split <;> simp [wid_len]) w hT
      rw [parse_text hcs.1, ← ht1] at this; exact this
    have FC : Hid (∀ w, Calls Tryd.prog 16 #[.agg #[.int .u8 (1 + x % 3), .int .i64 S]] w fun e w' => e = .returned (.int .i64 0) ∧ Below w.heap.size w w') := Lib.hid fun w => by
      have := check_any (1 + x % 3) S (by omega) w
      rw [hcs.1] at this; exact this
    clear hA hcs hS hw ht1
    obtain ⟨k, t, c, he⟩ : ∃ k t c, pM (bts s) = (k, t, c) := ⟨_, _, _, rfl⟩
    have FX : Hid (∀ w, Tab w → Calls Tryd.prog 8 #[.string s] w fun e w' => e = .returned (.tuple #[.agg #[.int .u8 k, .int .i64 t], .int .i64 c]) ∧ Below w.heap.size w w') := Lib.hid fun w hT => by
      have := parse_any (bts s) (by rw [bts_len]; omega) w hT
      rw [he] at this; exact this
    by_cases hc : c = 0
    · subst hc
      have hpp := print_parse he
      have hbd := pM_bd he
      have FY : Hid (∀ w, Tab w → Calls Tryd.prog 10 #[.agg #[.int .u8 k, .int .i64 t]] w fun e w' => e = .returned (.tuple #[.string s, .int .i64 0]) ∧ Below w.heap.size w w') := Lib.hid fun w hT => by
        have := print_any k t hbd w hT
        rw [hpp.1, show prM k t = text k t by unfold prM; rw [if_pos hpp.1], hpp.2] at this; exact this
      clear he hpp hbd
      go_enter Tryd.func5, Tryd.ntmps5
      go_wp2_with (first
        | (go_at_call 14; refine (FA.out _).mono ?_; rintro e w1 ⟨rfl, hb1⟩)
        | (go_at_call 10; with_reducible refine (FP.out _ (HT.out.later (Below.next_alloc hb1 _))).mono ?_; rintro e w2 ⟨rfl, hB⟩; clear FP; obtain ⟨l2, v0, v1⟩ := boxed hB; have hb2 := Below.next_allocs hb1 hB; clear hB)
        | (go_at_call 8; with_reducible refine (FQ.out _ (HT.out.later hb2)).mono ?_; rintro e w3 ⟨rfl, hB⟩; clear FQ; have v0 := later hB l2 v0; have v1 := later hB l2 v1; have l3 := Nat.lt_of_lt_of_le l2 hB.size; have hb3 := Below.next hb2 hB; clear hB)
        | (go_at_call 16; refine (FC.out _).mono ?_; rintro e w4 ⟨rfl, hB⟩; clear v0 v1 l2 l3; have hb4 := Below.next_allocs hb3 hB; clear hB)
        | (go_at_call 8; with_reducible refine (FX.out _ (HT.out.later hb4)).mono ?_; rintro e w5 ⟨rfl, hB⟩; have hb5 := Below.next hb4 hB; clear hB)
        | (go_at_call 10; with_reducible refine (FY.out _ (HT.out.later (Below.next_alloc hb5 _))).mono ?_; rintro e w6 ⟨rfl, hB⟩; have hb6 := Below.next_allocs hb5 hB; clear hB)
        | (go_at_call 7; refine (awake_any _ (HT.out.later hb6)).mono ?_; rintro e w7 ⟨rfl, hB⟩; have hb7 := Below.next hb6 hB))
      go_ret
      exact ⟨rfl, hb7⟩
    · obtain ⟨rfl, rfl⟩ := pM_err he hc
      have hq : (c != 0) = true := by simp [hc]
      clear he hc
      go_enter Tryd.func5, Tryd.ntmps5
      go_wp2_with (first
        | (go_at_call 14; refine (FA.out _).mono ?_; rintro e w1 ⟨rfl, hb1⟩)
        | (go_at_call 10; with_reducible refine (FP.out _ (HT.out.later (Below.next_alloc hb1 _))).mono ?_; rintro e w2 ⟨rfl, hB⟩; clear FP; obtain ⟨l2, v0, v1⟩ := boxed hB; have hb2 := Below.next_allocs hb1 hB; clear hB)
        | (go_at_call 8; with_reducible refine (FQ.out _ (HT.out.later hb2)).mono ?_; rintro e w3 ⟨rfl, hB⟩; clear FQ; have v0 := later hB l2 v0; have v1 := later hB l2 v1; have l3 := Nat.lt_of_lt_of_le l2 hB.size; have hb3 := Below.next hb2 hB; clear hB)
        | (go_at_call 16; refine (FC.out _).mono ?_; rintro e w4 ⟨rfl, hB⟩; clear v0 v1 l2 l3; have hb4 := Below.next_allocs hb3 hB; clear hB)
        | (go_at_call 8; with_reducible refine (FX.out _ (HT.out.later hb4)).mono ?_; rintro e w5 ⟨rfl, hB⟩; have hb5 := Below.next hb4 hB; clear hB)
        | (go_at_call 7; refine (awake_any _ (HT.out.later (Below.next_alloc hb5 _))).mono ?_; rintro e w6 ⟨rfl, hB⟩; have hb6 := Below.next_allocs hb5 hB))
      go_ret
      exact ⟨rfl, hb6⟩
theorem text_ne {k s : Int} : text k s ≠ [] := by
  intro h
  have := congrArg List.length h
  unfold text at this
  simp [wid_len] at this
set_option maxHeartbeats 4000000 in
set_option maxRecDepth 100000 in
theorem momentOrder_any (x p q : Int) (w : World) (hT : Tab w) (x0 : 0 ≤ x) (x1 : x ≤ 255) (p0 : 0 ≤ p) (p1 : p ≤ 18446744073709551615) (q0 : 0 ≤ q) (q1 : q ≤ 18446744073709551615) : Calls Tryd.prog 6 #[.int .u8 x, .agg #[.int .u64 p, .int .u64 q]] w fun e w' => e = .returned (.bool true) ∧ Below w.heap.size w w' := by
  have HT := Lib.hid hT
  clear hT
  have fact : ∀ z, 0 ≤ z → ∃ S t, chk (1 + x % 3) S = 0 ∧ 0 ≤ S ∧ S ≤ 315537897599 ∧ t = str (text (1 + x % 3) S) ∧ Hid (∀ w, Calls Tryd.prog 14 #[.int .u8 (1 + x % 3), .int .i64 (z % 315537897600)] w fun e w' => e = .returned (.tuple #[.agg #[.int .u8 (1 + x % 3), .int .i64 S], .int .i64 0]) ∧ Below w.heap.size w w')
      ∧ Hid (∀ w, Tab w → Calls Tryd.prog 10 #[.agg #[.int .u8 (1 + x % 3), .int .i64 S]] w fun e w' => e = .returned (.tuple #[.string t, .int .i64 0]) ∧ Below w.heap.size w w') := by
    intro z z0
    have hw : why (1 + x % 3) (z % 315537897600) = 0 := why_in (by omega) (by omega) (by omega) (by omega)
    have hcs := chk_sec hw
    have hbs := why_le hcs.2
    refine ⟨secOf (1 + x % 3) (z % 315537897600), _, hcs.1, hbs.2.2.1, hbs.2.2.2, rfl, Lib.hid fun w => ?_, Lib.hid fun w hT => ?_⟩
    · have := at_any (1 + x % 3) (z % 315537897600) (by omega) w
      rw [hw, atV_in hw] at this; exact this
    · have := print_any (1 + x % 3) (secOf (1 + x % 3) (z % 315537897600)) (by omega) w hT
      rw [hcs.1, show prM (1 + x % 3) (secOf (1 + x % 3) (z % 315537897600)) = text (1 + x % 3) (secOf (1 + x % 3) (z % 315537897600)) by unfold prM; rw [if_pos hcs.1]] at this; exact this
  obtain ⟨S, t, hS, S0, S1, ht, FA1, FP1⟩ := fact p p0
  obtain ⟨T, u, hU, T0, T1, hu, FA2, FP2⟩ := fact q q0
  have hless := text_less hS hU (by omega) (by omega) S0 S1 T0 T1
  have e1 : Op.bytesLess t.toList u.toList = decide (S < T) := by rw [ByteArray.toList_eq, ByteArray.toList_eq, ht, hu]; exact hless
  have e2 : (t.toList == u.toList) = decide (S = T) := by
    rw [ByteArray.toList_eq, ByteArray.toList_eq, ht, hu]
    show (text (1 + x % 3) S == text (1 + x % 3) T) = decide (S = T)
    by_cases h : S = T
    · rw [h]; simp
    · have : text (1 + x % 3) S ≠ text (1 + x % 3) T := fun hh => by
        have h1 := parse_text hS
        rw [hh, parse_text hU] at h1
        simp at h1; omega
      simp [this, h]
  have e3 : (t.toList == []) = false := by
    rw [ByteArray.toList_eq, ht]
    show (text (1 + x % 3) S == []) = false
    simp [text_ne]
  have FS : Hid (∀ w, Calls Tryd.prog 12 #[.agg #[.int .u8 (1 + x % 3), .int .i64 S]] w fun e w' => e = .returned (.tuple #[.int .i64 (S / 86400), .int .i64 (S % 86400)]) ∧ Below w.heap.size w w') := Lib.hid fun w => by
    have := split_any (1 + x % 3) S (by omega) w
    rw [if_pos hS, if_pos hS] at this; exact this
  have FB : Hid (∀ w, Calls Tryd.prog 18 #[.agg #[.int .u8 (1 + x % 3), .int .i64 S], .agg #[.int .u8 (1 + x % 3), .int .i64 T]] w fun e w' => e = .returned (.bool (decide (S < T))) ∧ Below w.heap.size w w') := Lib.hid fun w => by
    have := before_any (1 + x % 3) S (1 + x % 3) T w
    rw [show (decide (S < T) || (decide (S = T) && decide (1 + x % 3 < 1 + x % 3))) = decide (S < T) by simp] at this; exact this
  have hsum : (S / 86400 * 86400 + S % 86400 == S) = true := by rw [beq_iff_eq]; omega
  clear fact hless hS hU ht hu
  go_enter Tryd.func6, Tryd.ntmps6
  go_wp2_with (first
    | (go_at_call 14; with_reducible refine (FA1.out _).mono ?_; rintro e w1 ⟨rfl, hB⟩; clear FA1; obtain ⟨l1, a0, a1⟩ := boxed hB; have hb1 := head hB; clear hB)
    | (go_at_call 14; with_reducible refine (FA2.out _).mono ?_; rintro e w2 ⟨rfl, hB⟩; clear FA2; obtain ⟨l2, v0, v1⟩ := boxed hB; have hb2 := Below.next_allocs hb1 hB; clear hB a0 a1 l1)
    | (go_at_call 10; with_reducible refine (FP1.out _ (HT.out.later (Below.next_alloc hb2 _))).mono ?_; rintro e w3 ⟨rfl, hB⟩; clear FP1; obtain ⟨m3, y0, y1⟩ := boxed hB; have v0 := keepc hB l2 v0; have v1 := keepc hB l2 v1; have l3 := Nat.lt_trans l2 m3; have hb3 := Below.next_allocs hb2 hB; clear hB)
    | (go_at_call 10; with_reducible refine (FP2.out _ (HT.out.later hb3)).mono ?_; rintro e w4 ⟨rfl, hB⟩; clear FP2; have v0 := later hB l3 v0; have v1 := later hB l3 v1; have y0 := later hB m3 y0; have y1 := later hB m3 y1; have l4 := Nat.lt_of_lt_of_le l3 hB.size; have m4 := Nat.lt_of_lt_of_le m3 hB.size; have hb4 := Below.next hb3 hB; clear hB)
    | (go_at_call 12; refine (FS.out _).mono ?_; rintro e w5 ⟨rfl, hB⟩; have v0 := later hB l4 v0; have v1 := later hB l4 v1; have y0 := later hB m4 y0; have y1 := later hB m4 y1; have l5 := Nat.lt_of_lt_of_le l4 hB.size; have m5 := Nat.lt_of_lt_of_le m4 hB.size; have hb5 := Below.next hb4 hB; clear hB)
    | (go_at_call 18; refine (FB.out _).mono ?_; rintro e w6 ⟨rfl, hB⟩; have v0 := later hB l5 v0; have v1 := later hB l5 v1; have y0 := later hB m5 y0; have y1 := later hB m5 y1; have hb6 := Below.next hb5 hB; clear hB)
    | (go_at_call 7; refine (awake_any _ (HT.out.later hb6)).mono ?_; rintro e w7 ⟨rfl, hB⟩; have hb7 := Below.next hb6 hB))
  all_goals
    go_ret
    exact ⟨rfl, hb7⟩
end Go.Proofs.YtbjiiejgepgdeaaDoor.Ma
