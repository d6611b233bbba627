/- The walk through awake: what every right program tells of a summer's day. -/
import Derived.Test.YtbjiiejgepgdeaaDoorMm
namespace Go.Proofs.YtbjiiejgepgdeaaDoor.Ma
open Go.RowKit Mo Ut Cw
theorem pA1 : pM [49, 57, 57, 55, 48, 55, 49, 52, 84, 49, 51, 51, 48, 48, 48, 90] = (3, 63004483800, 0) := by decide +kernel
theorem pA6 : pM [49, 57, 57, 55, 48, 55, 49, 52, 84, 50, 52, 48, 48, 48, 48] = (0, 0, 8) := by decide +kernel
theorem pA7 : pM [49, 57, 57, 55, 48, 55, 49, 52, 84, 49, 51, 51, 48] = (0, 0, 4) := by decide +kernel
theorem cA2 : chk 3 63004483800 = 0 := by decide +kernel
theorem cA4 : chk 1 63004435200 = 0 := by decide +kernel
theorem tA2 : prM 3 63004483800 = [49, 57, 57, 55, 48, 55, 49, 52, 84, 49, 51, 51, 48, 48, 48, 90] := by decide +kernel
theorem tA4 : prM 1 63004435200 = [49, 57, 57, 55, 48, 55, 49, 52] := by decide +kernel
theorem A1 (w : World) (hT : Tab w) : Calls Tryd.prog 8 #[.string ⟨#[49, 57, 57, 55, 48, 55, 49, 52, 84, 49, 51, 51, 48, 48, 48, 90]⟩] w fun e w' => e = .returned (.tuple #[.agg #[.int .u8 3, .int .i64 63004483800], .int .i64 0]) ∧ Below w.heap.size w w' := by
  have := parse_any [49, 57, 57, 55, 48, 55, 49, 52, 84, 49, 51, 51, 48, 48, 48, 90] (by decide) w hT
  rw [pA1] at this; exact this
theorem A6 (w : World) (hT : Tab w) : Calls Tryd.prog 8 #[.string ⟨#[49, 57, 57, 55, 48, 55, 49, 52, 84, 50, 52, 48, 48, 48, 48]⟩] w fun e w' => e = .returned (.tuple #[.agg #[.int .u8 0, .int .i64 0], .int .i64 8]) ∧ Below w.heap.size w w' := by
  have := parse_any [49, 57, 57, 55, 48, 55, 49, 52, 84, 50, 52, 48, 48, 48, 48] (by decide) w hT
  rw [pA6] at this; exact this
theorem A7 (w : World) (hT : Tab w) : Calls Tryd.prog 8 #[.string ⟨#[49, 57, 57, 55, 48, 55, 49, 52, 84, 49, 51, 51, 48]⟩] w fun e w' => e = .returned (.tuple #[.agg #[.int .u8 0, .int .i64 0], .int .i64 4]) ∧ Below w.heap.size w w' := by
  have := parse_any [49, 57, 57, 55, 48, 55, 49, 52, 84, 49, 51, 51, 48] (by decide) w hT
  rw [pA7] at this; exact this
theorem A2 (w : World) (hT : Tab w) : Calls Tryd.prog 10 #[.agg #[.int .u8 3, .int .i64 63004483800]] w fun e w' => e = .returned (.tuple #[.string ⟨#[49, 57, 57, 55, 48, 55, 49, 52, 84, 49, 51, 51, 48, 48, 48, 90]⟩, .int .i64 0]) ∧ Below w.heap.size w w' := by
  have := print_any 3 63004483800 (by decide) w hT
  rw [cA2, tA2] at this; exact this
theorem A4 (w : World) (hT : Tab w) : Calls Tryd.prog 10 #[.agg #[.int .u8 1, .int .i64 63004435200]] w fun e w' => e = .returned (.tuple #[.string ⟨#[49, 57, 57, 55, 48, 55, 49, 52]⟩, .int .i64 0]) ∧ Below w.heap.size w w' := by
  have := print_any 1 63004435200 (by decide) w hT
  rw [cA4, tA4] at this; exact this
theorem A3 (w : World) : Calls Tryd.prog 14 #[.int .u8 1, .int .i64 63004483800] w fun e w' => e = .returned (.tuple #[.agg #[.int .u8 1, .int .i64 63004435200], .int .i64 0]) ∧ Below w.heap.size w w' := at_any 1 63004483800 (by decide) w
theorem A5 (w : World) : Calls Tryd.prog 12 #[.agg #[.int .u8 3, .int .i64 63004483800]] w fun e w' => e = .returned (.tuple #[.int .i64 729218, .int .i64 48600]) ∧ Below w.heap.size w w' := by
  have := split_any 3 63004483800 (by decide) w
  rw [cA2] at this; exact this
theorem A8 (w : World) : Calls Tryd.prog 18 #[.agg #[.int .u8 1, .int .i64 63004435200], .agg #[.int .u8 3, .int .i64 63004483800]] w fun e w' => e = .returned (.bool true) ∧ Below w.heap.size w w' := before_any 1 63004435200 3 63004483800 w
theorem A9 (w : World) : Calls Tryd.prog 18 #[.agg #[.int .u8 3, .int .i64 63004483800], .agg #[.int .u8 3, .int .i64 63004483800]] w fun e w' => e = .returned (.bool false) ∧ Below w.heap.size w w' := before_any 3 63004483800 3 63004483800 w
theorem A10 (w : World) : Calls Tryd.prog 16 #[.agg #[.int .u8 0, .int .i64 0]] w fun e w' => e = .returned (.int .i64 11) ∧ Below w.heap.size w w' := check_any 0 0 (by decide) w
attribute [local go_sem] eqV
set_option maxHeartbeats 2000000 in
set_option maxRecDepth 100000 in
theorem awake_any (w : World) (hT : Tab w) : Calls Tryd.prog 7 #[] w fun e w' => e = .returned (.bool true) ∧ Below w.heap.size w w' := by
  have HT := Lib.hid hT
  clear hT
  go_enter Tryd.func7, Tryd.ntmps7
  go_wp2_with (first
    | (go_at_call 8; with_reducible refine (A1 _ HT.out).mono ?_; rintro e w1 ⟨rfl, hb1⟩)
    | (go_at_call 10; with_reducible refine (A2 _ (HT.out.later (Below.next_alloc hb1 _))).mono ?_; rintro e w2 ⟨rfl, hB⟩; obtain ⟨l2, v0, v1⟩ := boxed hB; have hb2 := Below.next_allocs hb1 hB; clear hB)
    | (go_at_call 14; with_reducible refine (A3 _).mono ?_; rintro e w3 ⟨rfl, hB⟩; have v0 := later hB l2 v0; have v1 := later hB l2 v1; have l3 := Nat.lt_of_lt_of_le l2 hB.size; have hb3 := Below.next hb2 hB; clear hB)
    | (go_at_call 10; with_reducible refine (A4 _ (HT.out.later (Below.next_alloc hb3 _))).mono ?_; rintro e w4 ⟨rfl, hB⟩; obtain ⟨m4, d0, d1⟩ := boxed hB; have v0 := keepc hB l3 v0; have v1 := keepc hB l3 v1; have l4 := Nat.lt_trans l3 m4; have hb4 := Below.next_allocs hb3 hB; clear hB)
    | (go_at_call 12; with_reducible refine (A5 _).mono ?_; rintro e w5 ⟨rfl, hB⟩; have v0 := later hB l4 v0; have v1 := later hB l4 v1; have d0 := later hB m4 d0; have d1 := later hB m4 d1; have l5 := Nat.lt_of_lt_of_le l4 hB.size; have m5 := Nat.lt_of_lt_of_le m4 hB.size; have hb5 := Below.next hb4 hB; clear hB)
    | (go_at_call 8; with_reducible refine (A6 _ (HT.out.later hb5)).mono ?_; rintro e w6 ⟨rfl, hB⟩; have v0 := later hB l5 v0; have v1 := later hB l5 v1; have d0 := later hB m5 d0; have d1 := later hB m5 d1; have l6 := Nat.lt_of_lt_of_le l5 hB.size; have m6 := Nat.lt_of_lt_of_le m5 hB.size; have hb6 := Below.next hb5 hB; clear hB)
    | (go_at_call 8; with_reducible refine (A7 _ (HT.out.later (Below.next_alloc hb6 _))).mono ?_; rintro e w7 ⟨rfl, hB⟩; have v0 := keepc hB l6 v0; have v1 := keepc hB l6 v1; have d0 := keepc hB m6 d0; have d1 := keepc hB m6 d1; have hs := (Below.next_allocs (Below.refl _ w6) hB).size; have l7 := Nat.lt_of_lt_of_le l6 hs; have m7 := Nat.lt_of_lt_of_le m6 hs; have hb7 := Below.next_allocs hb6 hB; clear hB hs)
    | (go_at_call 18; with_reducible refine (A8 _).mono ?_; rintro e w8 ⟨rfl, hB⟩; have v0 := keepc hB l7 v0; have v1 := keepc hB l7 v1; have d0 := keepc hB m7 d0; have d1 := keepc hB m7 d1; have hs := (Below.next_allocs (Below.refl _ w7) hB).size; have l8 := Nat.lt_of_lt_of_le l7 hs; have m8 := Nat.lt_of_lt_of_le m7 hs; have hb8 := Below.next_allocs hb7 hB; clear hB hs)
    | (go_at_call 18; with_reducible refine (A9 _).mono ?_; rintro e w9 ⟨rfl, hB⟩; have hb9 := Below.next hb8 hB; clear hB)
    | (go_at_call 16; with_reducible refine (A10 _).mono ?_; rintro e w10 ⟨rfl, hB⟩; have hb10 := Below.next hb9 hB; clear hB))
  go_ret
  exact ⟨rfl, hb10⟩
end Go.Proofs.YtbjiiejgepgdeaaDoor.Ma
