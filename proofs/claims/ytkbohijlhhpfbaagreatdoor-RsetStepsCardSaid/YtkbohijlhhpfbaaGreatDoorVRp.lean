/- The walk through errandref21's Check (printed by gen_check.py), a rule with numbered weekdays. -/
import Derived.Test.YtkbohijlhhpfbaaGreatDoorVRn
namespace Go.Proofs.YtkbohijlhhpfbaaGreatDoor.Ra
open Go.RowKit Ru Ut Cw
set_option maxHeartbeats 16000000 in
set_option maxRecDepth 100000 in
theorem rcheckC_any (w : World) (r : R) (sv : Nat → Value) (hL : Lists w r sv) (hn : Short r) (hu : 0 ≤ r.uk ∧ r.uk ≤ 255) (hf : 0 ≤ r.freq) (h1 : ¬ 6 < r.freq) (h2 : ¬ (r.interval < 1 ∨ 1000 < r.interval ∨ r.count < 0 ∨ 1000 < r.count ∨ r.wkst < 0 ∨ 6 < r.wkst)) (hu0 : untilE r = 0) (hze : errs r = 0) (hN : numbered r.day = true) : Calls Tryz.prog 37 #[.agg (ruleC r sv)] w fun e w' => e = .returned (.int .i64 (chkR r)) ∧ Below w.heap.size w w' := by
 have FU := fun W => until_any W r sv hu
 obtain ⟨x4, g4⟩ : ∃ x, err r 4 = x := ⟨_, rfl⟩
 obtain ⟨x5, g5⟩ : ∃ x, err r 5 = x := ⟨_, rfl⟩
 obtain ⟨x6, g6⟩ : ∃ x, err r 6 = x := ⟨_, rfl⟩
 obtain ⟨x7, g7⟩ : ∃ x, err r 7 = x := ⟨_, rfl⟩
 obtain ⟨x8, g8⟩ : ∃ x, err r 8 = x := ⟨_, rfl⟩
 obtain ⟨x9, g9⟩ : ∃ x, err r 9 = x := ⟨_, rfl⟩
 obtain ⟨x10, g10⟩ : ∃ x, err r 10 = x := ⟨_, rfl⟩
 obtain ⟨x11, g11⟩ : ∃ x, err r 11 = x := ⟨_, rfl⟩
 obtain ⟨x12, g12⟩ : ∃ x, err r 12 = x := ⟨_, rfl⟩
 have F4 : ∀ W, Below w.heap.size w W → Calls Tryz.prog 73 #[sv 4, .int .i64 0, .int .i64 59, .bool false] W fun e w' => e = .returned (.int .i64 x4) ∧ Below W.heap.size W w' := fun W hB => by
  have := rlist_any ((hL.1 4 (by decide) (by decide) (by decide)).below hB) (hn.1 4 (by decide) (by decide) (by decide)) 0 59 false (by decide) (by decide) (by decide); rwa [show wrong (bad 0 59 false) (lst r 4) = err r 4 from rfl, g4] at this
 have F5 : ∀ W, Below w.heap.size w W → Calls Tryz.prog 73 #[sv 5, .int .i64 0, .int .i64 59, .bool false] W fun e w' => e = .returned (.int .i64 x5) ∧ Below W.heap.size W w' := fun W hB => by
  have := rlist_any ((hL.1 5 (by decide) (by decide) (by decide)).below hB) (hn.1 5 (by decide) (by decide) (by decide)) 0 59 false (by decide) (by decide) (by decide); rwa [show wrong (bad 0 59 false) (lst r 5) = err r 5 from rfl, g5] at this
 have F6 : ∀ W, Below w.heap.size w W → Calls Tryz.prog 73 #[sv 6, .int .i64 0, .int .i64 23, .bool false] W fun e w' => e = .returned (.int .i64 x6) ∧ Below W.heap.size W w' := fun W hB => by
  have := rlist_any ((hL.1 6 (by decide) (by decide) (by decide)).below hB) (hn.1 6 (by decide) (by decide) (by decide)) 0 23 false (by decide) (by decide) (by decide); rwa [show wrong (bad 0 23 false) (lst r 6) = err r 6 from rfl, g6] at this
 have F7 : ∀ W, Below w.heap.size w W → Calls Tryz.prog 74 #[sv 7] W fun e w' => e = .returned (.int .i64 x7) ∧ Below W.heap.size W w' := fun W hB => by
  have := rdays_any (hL.2.below hB) hn.2; rwa [show wrong badDay r.day = err r 7 from rfl, g7] at this
 have F8 : ∀ W, Below w.heap.size w W → Calls Tryz.prog 73 #[sv 8, .int .i64 1, .int .i64 31, .bool true] W fun e w' => e = .returned (.int .i64 x8) ∧ Below W.heap.size W w' := fun W hB => by
  have := rlist_any ((hL.1 8 (by decide) (by decide) (by decide)).below hB) (hn.1 8 (by decide) (by decide) (by decide)) 1 31 true (by decide) (by decide) (by decide); rwa [show wrong (bad 1 31 true) (lst r 8) = err r 8 from rfl, g8] at this
 have F9 : ∀ W, Below w.heap.size w W → Calls Tryz.prog 73 #[sv 9, .int .i64 1, .int .i64 366, .bool true] W fun e w' => e = .returned (.int .i64 x9) ∧ Below W.heap.size W w' := fun W hB => by
  have := rlist_any ((hL.1 9 (by decide) (by decide) (by decide)).below hB) (hn.1 9 (by decide) (by decide) (by decide)) 1 366 true (by decide) (by decide) (by decide); rwa [show wrong (bad 1 366 true) (lst r 9) = err r 9 from rfl, g9] at this
 have F10 : ∀ W, Below w.heap.size w W → Calls Tryz.prog 73 #[sv 10, .int .i64 1, .int .i64 53, .bool true] W fun e w' => e = .returned (.int .i64 x10) ∧ Below W.heap.size W w' := fun W hB => by
  have := rlist_any ((hL.1 10 (by decide) (by decide) (by decide)).below hB) (hn.1 10 (by decide) (by decide) (by decide)) 1 53 true (by decide) (by decide) (by decide); rwa [show wrong (bad 1 53 true) (lst r 10) = err r 10 from rfl, g10] at this
 have F11 : ∀ W, Below w.heap.size w W → Calls Tryz.prog 73 #[sv 11, .int .i64 1, .int .i64 12, .bool false] W fun e w' => e = .returned (.int .i64 x11) ∧ Below W.heap.size W w' := fun W hB => by
  have := rlist_any ((hL.1 11 (by decide) (by decide) (by decide)).below hB) (hn.1 11 (by decide) (by decide) (by decide)) 1 12 false (by decide) (by decide) (by decide); rwa [show wrong (bad 1 12 false) (lst r 11) = err r 11 from rfl, g11] at this
 have F12 : ∀ W, Below w.heap.size w W → Calls Tryz.prog 73 #[sv 12, .int .i64 1, .int .i64 366, .bool true] W fun e w' => e = .returned (.int .i64 x12) ∧ Below W.heap.size W w' := fun W hB => by
  have := rlist_any ((hL.1 12 (by decide) (by decide) (by decide)).below hB) (hn.1 12 (by decide) (by decide) (by decide)) 1 366 true (by decide) (by decide) (by decide); rwa [show wrong (bad 1 366 true) (lst r 12) = err r 12 from rfl, g12] at this
 have FN : ∀ W, Below w.heap.size w W → Calls Tryz.prog 75 #[sv 7] W fun e w' => e = .returned (.bool (numbered r.day)) ∧ W = w' := fun W hB => numbered_any (hL.2.below hB) (by have := hn.2; omega)
 have hE : errs r = firstNZ [x4, x5, x6, x7, x8, x9, x10, x11, x12] := by unfold errs; rw [g4, g5, g6, g7, g8, g9, g10, g11, g12]
 obtain ⟨a4, k4, e4⟩ := (hL.1 4 (by decide) (by decide) (by decide)).slice
 change sv 4 = .slice a4 r.sec.length k4 at e4
 have n4 : r.sec.length ≤ 1000 := hn.1 4 (by decide) (by decide) (by decide)
 obtain ⟨a5, k5, e5⟩ := (hL.1 5 (by decide) (by decide) (by decide)).slice
 change sv 5 = .slice a5 r.min.length k5 at e5
 have n5 : r.min.length ≤ 1000 := hn.1 5 (by decide) (by decide) (by decide)
 obtain ⟨a6, k6, e6⟩ := (hL.1 6 (by decide) (by decide) (by decide)).slice
 change sv 6 = .slice a6 r.hour.length k6 at e6
 have n6 : r.hour.length ≤ 1000 := hn.1 6 (by decide) (by decide) (by decide)
 obtain ⟨a7, k7, e7⟩ := hL.2.slice
 have n7 := hn.2
 obtain ⟨a8, k8, e8⟩ := (hL.1 8 (by decide) (by decide) (by decide)).slice
 change sv 8 = .slice a8 r.mday.length k8 at e8
 have n8 : r.mday.length ≤ 1000 := hn.1 8 (by decide) (by decide) (by decide)
 obtain ⟨a9, k9, e9⟩ := (hL.1 9 (by decide) (by decide) (by decide)).slice
 change sv 9 = .slice a9 r.yday.length k9 at e9
 have n9 : r.yday.length ≤ 1000 := hn.1 9 (by decide) (by decide) (by decide)
 obtain ⟨a10, k10, e10⟩ := (hL.1 10 (by decide) (by decide) (by decide)).slice
 change sv 10 = .slice a10 r.weekno.length k10 at e10
 have n10 : r.weekno.length ≤ 1000 := hn.1 10 (by decide) (by decide) (by decide)
 obtain ⟨a11, k11, e11⟩ := (hL.1 11 (by decide) (by decide) (by decide)).slice
 change sv 11 = .slice a11 r.month.length k11 at e11
 have n11 : r.month.length ≤ 1000 := hn.1 11 (by decide) (by decide) (by decide)
 obtain ⟨a12, k12, e12⟩ := (hL.1 12 (by decide) (by decide) (by decide)).slice
 change sv 12 = .slice a12 r.setpos.length k12 at e12
 have n12 : r.setpos.length ≤ 1000 := hn.1 12 (by decide) (by decide) (by decide)
 have RB := RAt.box w r sv 27
 unfold ruleC at *
 rw [e4] at FU F4 RB ⊢
 rw [e5] at FU F5 RB ⊢
 rw [e6] at FU F6 RB ⊢
 rw [e7] at FU F7 FN RB ⊢
 rw [e8] at FU F8 RB ⊢
 rw [e9] at FU F9 RB ⊢
 rw [e10] at FU F10 RB ⊢
 rw [e11] at FU F11 RB ⊢
 rw [e12] at FU F12 RB ⊢
 replace e4 := Lib.hid e4
 replace e5 := Lib.hid e5
 replace e6 := Lib.hid e6
 replace e7 := Lib.hid e7
 replace e8 := Lib.hid e8
 replace e9 := Lib.hid e9
 replace e10 := Lib.hid e10
 replace e11 := Lib.hid e11
 replace e12 := Lib.hid e12
 replace F4 := Lib.hid F4
 replace F5 := Lib.hid F5
 replace F6 := Lib.hid F6
 replace F7 := Lib.hid F7
 replace F8 := Lib.hid F8
 replace F9 := Lib.hid F9
 replace F10 := Lib.hid F10
 replace F11 := Lib.hid F11
 replace F12 := Lib.hid F12
 replace FN := Lib.hid FN
 replace FU := Lib.hid FU
 replace RB := Lib.hid RB
 replace hE := Lib.hid hE
 clear hL hn g4 g5 g6 g7 g8 g9 g10 g11 g12
 have hr := Lib.hid (chkR_eq h1 h2)
 obtain ⟨c0, c1, c2, c3, c4, c5⟩ : ¬ r.interval < 1 ∧ ¬ 1000 < r.interval ∧ ¬ r.count < 0 ∧ ¬ 1000 < r.count ∧ ¬ r.wkst < 0 ∧ ¬ 6 < r.wkst := by omega
 clear h2
 rw [hu0] at FU
 replace hr := Lib.hid (hr.out.trans (if_neg (by omega)))
 clear hu0
 obtain ⟨z, hz⟩ : ∃ z, firstNZ [x4, x5, x6, x7, x8, x9, x10, x11, x12] = z := ⟨_, rfl⟩
 rw [hz] at hE
 have FF := fun W t => first_nine W t x4 x5 x6 x7 x8 x9 x10 x11 x12
 rw [hz] at FF
 replace FF := Lib.hid FF
 clear hz
 rw [hE.out] at hr
 have hz : z = 0 := by rw [← hE.out]; exact hze
 clear hze
 have qz : (z != 0) = false := by simp [hz]
 subst hz
 replace hr := Lib.hid (hr.out.trans (if_neg (by omega)))
 rw [hN] at FN
 replace hN := Lib.hid hN
 by_cases m1 : r.freq < 5
 ·go_enter Tryz.func37, Tryz.ntmps37
  go_wp2_with (first | (go_at_call 71; (with_reducible refine (FU.out _).mono ?_); rintro e w1 ⟨rfl, hB⟩))
  replace RB := Lib.hid (RB.out.later hB)
  have BW := Lib.hid (Below.next_allocs' hB)
  clear hB
  have SL : ∀ W, Below w1.heap.size w1 W → (W.cell? ⟨w.heap.size, 5, none⟩ = some (.slice a4 r.sec.length k4) ∧ W.cell? ⟨w.heap.size, 6, none⟩ = some (.slice a5 r.min.length k5) ∧ W.cell? ⟨w.heap.size, 7, none⟩ = some (.slice a6 r.hour.length k6) ∧ W.cell? ⟨w.heap.size, 8, none⟩ = some (.slice a7 r.day.length k7) ∧ W.cell? ⟨w.heap.size, 9, none⟩ = some (.slice a8 r.mday.length k8) ∧ W.cell? ⟨w.heap.size, 10, none⟩ = some (.slice a9 r.yday.length k9) ∧ W.cell? ⟨w.heap.size, 11, none⟩ = some (.slice a10 r.weekno.length k10) ∧ W.cell? ⟨w.heap.size, 12, none⟩ = some (.slice a11 r.month.length k11) ∧ W.cell? ⟨w.heap.size, 13, none⟩ = some (.slice a12 r.setpos.length k12)) := fun W hB => by
   have h := (RB.out.later hB).2.2.2.2.2.2.2
   exact ⟨(h 4 (by decide) (by decide)).trans (by rw [e4.out]), (h 5 (by decide) (by decide)).trans (by rw [e5.out]), (h 6 (by decide) (by decide)).trans (by rw [e6.out]), (h 7 (by decide) (by decide)).trans (by rw [e7.out]), (h 8 (by decide) (by decide)).trans (by rw [e8.out]), (h 9 (by decide) (by decide)).trans (by rw [e9.out]), (h 10 (by decide) (by decide)).trans (by rw [e10.out]), (h 11 (by decide) (by decide)).trans (by rw [e11.out]), (h 12 (by decide) (by decide)).trans (by rw [e12.out])⟩
  obtain ⟨s4, s5, s6, s7, s8, s9, s10, s11, s12⟩ := SL w1 (Below.refl _ _)
  replace SL := Lib.hid SL
  go_region_held3 (fun w' => w'.cell? ⟨w.heap.size, 5, none⟩ = some (.slice a4 r.sec.length k4) ∧ w'.cell? ⟨w.heap.size, 6, none⟩ = some (.slice a5 r.min.length k5) ∧ w'.cell? ⟨w.heap.size, 7, none⟩ = some (.slice a6 r.hour.length k6) ∧ w'.cell? ⟨w.heap.size, 8, none⟩ = some (.slice a7 r.day.length k7) ∧ w'.cell? ⟨w.heap.size, 9, none⟩ = some (.slice a8 r.mday.length k8) ∧ w'.cell? ⟨w.heap.size, 10, none⟩ = some (.slice a9 r.yday.length k9) ∧ w'.cell? ⟨w.heap.size, 11, none⟩ = some (.slice a10 r.weekno.length k10) ∧ w'.cell? ⟨w.heap.size, 12, none⟩ = some (.slice a11 r.month.length k11) ∧ w'.cell? ⟨w.heap.size, 13, none⟩ = some (.slice a12 r.setpos.length k12)) (first | go_keep | exact SL.out _ (by (repeat' (first|assumption|exact Below.refl _ _|apply Below.next_alloc|apply Below.drew|(apply Below.next;rotate_left;assumption)))))
   (first
    | (go_at_call 73; (with_reducible refine (F4.out _ (Below.next BW.out (by (repeat' (first|assumption|exact Below.refl _ _|apply Below.next_alloc|apply Below.drew|(apply Below.next;rotate_left;assumption)))))).mono ?_); rintro e y4 ⟨rfl, hB4⟩)
    | (go_at_call 73; (with_reducible refine (F5.out _ (Below.next BW.out (by (repeat' (first|assumption|exact Below.refl _ _|apply Below.next_alloc|apply Below.drew|(apply Below.next;rotate_left;assumption)))))).mono ?_); rintro e y5 ⟨rfl, hB5⟩)
    | (go_at_call 73; (with_reducible refine (F6.out _ (Below.next BW.out (by (repeat' (first|assumption|exact Below.refl _ _|apply Below.next_alloc|apply Below.drew|(apply Below.next;rotate_left;assumption)))))).mono ?_); rintro e y6 ⟨rfl, hB6⟩)
    | (go_at_call 74; (with_reducible refine (F7.out _ (Below.next BW.out (by (repeat' (first|assumption|exact Below.refl _ _|apply Below.next_alloc|apply Below.drew|(apply Below.next;rotate_left;assumption)))))).mono ?_); rintro e y7 ⟨rfl, hB7⟩)
    | (go_at_call 73; (with_reducible refine (F8.out _ (Below.next BW.out (by (repeat' (first|assumption|exact Below.refl _ _|apply Below.next_alloc|apply Below.drew|(apply Below.next;rotate_left;assumption)))))).mono ?_); rintro e y8 ⟨rfl, hB8⟩)
    | (go_at_call 73; (with_reducible refine (F9.out _ (Below.next BW.out (by (repeat' (first|assumption|exact Below.refl _ _|apply Below.next_alloc|apply Below.drew|(apply Below.next;rotate_left;assumption)))))).mono ?_); rintro e y9 ⟨rfl, hB9⟩)
    | (go_at_call 73; (with_reducible refine (F10.out _ (Below.next BW.out (by (repeat' (first|assumption|exact Below.refl _ _|apply Below.next_alloc|apply Below.drew|(apply Below.next;rotate_left;assumption)))))).mono ?_); rintro e y10 ⟨rfl, hB10⟩)
    | (go_at_call 73; (with_reducible refine (F11.out _ (Below.next BW.out (by (repeat' (first|assumption|exact Below.refl _ _|apply Below.next_alloc|apply Below.drew|(apply Below.next;rotate_left;assumption)))))).mono ?_); rintro e y11 ⟨rfl, hB11⟩)
    | (go_at_call 73; (with_reducible refine (F12.out _ (Below.next BW.out (by (repeat' (first|assumption|exact Below.refl _ _|apply Below.next_alloc|apply Below.drew|(apply Below.next;rotate_left;assumption)))))).mono ?_); rintro e y12 ⟨rfl, hB12⟩)
    | (go_at_call 72; (with_reducible refine (FF.out _ _).mono ?_); rintro e yf ⟨rfl, rfl⟩))
  go_wp2_with fail
  obtain ⟨u4, u5, u6, u7, u8, u9, u10, u11, u12⟩ := SL.out y12 (by (repeat' (first|assumption|exact Below.refl _ _|apply Below.next_alloc|apply Below.drew|(apply Below.next;rotate_left;assumption))))
  have BY := Lib.hid (show Below w1.heap.size w1 y12 by (repeat' (first|assumption|exact Below.refl _ _|apply Below.next_alloc|apply Below.drew|(apply Below.next;rotate_left;assumption))))
  have RY := RB.out.later BY.out
  have u0 := RY.2.1
  have hlt := RY.1
  clear RY
  go_wp2_with (first | (go_at_call 75; (with_reducible refine (FN.out _ (Below.next_alloc (Below.next BW.out BY.out) _)).mono ?_); rintro e w9 ⟨rfl, rfl⟩))
  all_goals
   try (exfalso; omega)
  all_goals
   go_ret
   exact ⟨ret_i (fin9t hr.out hN.out (by omega)).symm, Below.next BW.out (Below.next_alloc BY.out _)⟩
 by_cases m2 : 0 < (r.weekno.length : Int)
 ·have m3 : 0 < r.weekno.length := by omega
  go_enter Tryz.func37, Tryz.ntmps37
  go_wp2_with (first | (go_at_call 71; (with_reducible refine (FU.out _).mono ?_); rintro e w1 ⟨rfl, hB⟩))
  replace RB := Lib.hid (RB.out.later hB)
  have BW := Lib.hid (Below.next_allocs' hB)
  clear hB
  have SL : ∀ W, Below w1.heap.size w1 W → (W.cell? ⟨w.heap.size, 5, none⟩ = some (.slice a4 r.sec.length k4) ∧ W.cell? ⟨w.heap.size, 6, none⟩ = some (.slice a5 r.min.length k5) ∧ W.cell? ⟨w.heap.size, 7, none⟩ = some (.slice a6 r.hour.length k6) ∧ W.cell? ⟨w.heap.size, 8, none⟩ = some (.slice a7 r.day.length k7) ∧ W.cell? ⟨w.heap.size, 9, none⟩ = some (.slice a8 r.mday.length k8) ∧ W.cell? ⟨w.heap.size, 10, none⟩ = some (.slice a9 r.yday.length k9) ∧ W.cell? ⟨w.heap.size, 11, none⟩ = some (.slice a10 r.weekno.length k10) ∧ W.cell? ⟨w.heap.size, 12, none⟩ = some (.slice a11 r.month.length k11) ∧ W.cell? ⟨w.heap.size, 13, none⟩ = some (.slice a12 r.setpos.length k12)) := fun W hB => by
   have h := (RB.out.later hB).2.2.2.2.2.2.2
   exact ⟨(h 4 (by decide) (by decide)).trans (by rw [e4.out]), (h 5 (by decide) (by decide)).trans (by rw [e5.out]), (h 6 (by decide) (by decide)).trans (by rw [e6.out]), (h 7 (by decide) (by decide)).trans (by rw [e7.out]), (h 8 (by decide) (by decide)).trans (by rw [e8.out]), (h 9 (by decide) (by decide)).trans (by rw [e9.out]), (h 10 (by decide) (by decide)).trans (by rw [e10.out]), (h 11 (by decide) (by decide)).trans (by rw [e11.out]), (h 12 (by decide) (by decide)).trans (by rw [e12.out])⟩
  obtain ⟨s4, s5, s6, s7, s8, s9, s10, s11, s12⟩ := SL w1 (Below.refl _ _)
  replace SL := Lib.hid SL
  go_region_held3 (fun w' => w'.cell? ⟨w.heap.size, 5, none⟩ = some (.slice a4 r.sec.length k4) ∧ w'.cell? ⟨w.heap.size, 6, none⟩ = some (.slice a5 r.min.length k5) ∧ w'.cell? ⟨w.heap.size, 7, none⟩ = some (.slice a6 r.hour.length k6) ∧ w'.cell? ⟨w.heap.size, 8, none⟩ = some (.slice a7 r.day.length k7) ∧ w'.cell? ⟨w.heap.size, 9, none⟩ = some (.slice a8 r.mday.length k8) ∧ w'.cell? ⟨w.heap.size, 10, none⟩ = some (.slice a9 r.yday.length k9) ∧ w'.cell? ⟨w.heap.size, 11, none⟩ = some (.slice a10 r.weekno.length k10) ∧ w'.cell? ⟨w.heap.size, 12, none⟩ = some (.slice a11 r.month.length k11) ∧ w'.cell? ⟨w.heap.size, 13, none⟩ = some (.slice a12 r.setpos.length k12)) (first | go_keep | exact SL.out _ (by (repeat' (first|assumption|exact Below.refl _ _|apply Below.next_alloc|apply Below.drew|(apply Below.next;rotate_left;assumption)))))
   (first
    | (go_at_call 73; (with_reducible refine (F4.out _ (Below.next BW.out (by (repeat' (first|assumption|exact Below.refl _ _|apply Below.next_alloc|apply Below.drew|(apply Below.next;rotate_left;assumption)))))).mono ?_); rintro e y4 ⟨rfl, hB4⟩)
    | (go_at_call 73; (with_reducible refine (F5.out _ (Below.next BW.out (by (repeat' (first|assumption|exact Below.refl _ _|apply Below.next_alloc|apply Below.drew|(apply Below.next;rotate_left;assumption)))))).mono ?_); rintro e y5 ⟨rfl, hB5⟩)
    | (go_at_call 73; (with_reducible refine (F6.out _ (Below.next BW.out (by (repeat' (first|assumption|exact Below.refl _ _|apply Below.next_alloc|apply Below.drew|(apply Below.next;rotate_left;assumption)))))).mono ?_); rintro e y6 ⟨rfl, hB6⟩)
    | (go_at_call 74; (with_reducible refine (F7.out _ (Below.next BW.out (by (repeat' (first|assumption|exact Below.refl _ _|apply Below.next_alloc|apply Below.drew|(apply Below.next;rotate_left;assumption)))))).mono ?_); rintro e y7 ⟨rfl, hB7⟩)
    | (go_at_call 73; (with_reducible refine (F8.out _ (Below.next BW.out (by (repeat' (first|assumption|exact Below.refl _ _|apply Below.next_alloc|apply Below.drew|(apply Below.next;rotate_left;assumption)))))).mono ?_); rintro e y8 ⟨rfl, hB8⟩)
    | (go_at_call 73; (with_reducible refine (F9.out _ (Below.next BW.out (by (repeat' (first|assumption|exact Below.refl _ _|apply Below.next_alloc|apply Below.drew|(apply Below.next;rotate_left;assumption)))))).mono ?_); rintro e y9 ⟨rfl, hB9⟩)
    | (go_at_call 73; (with_reducible refine (F10.out _ (Below.next BW.out (by (repeat' (first|assumption|exact Below.refl _ _|apply Below.next_alloc|apply Below.drew|(apply Below.next;rotate_left;assumption)))))).mono ?_); rintro e y10 ⟨rfl, hB10⟩)
    | (go_at_call 73; (with_reducible refine (F11.out _ (Below.next BW.out (by (repeat' (first|assumption|exact Below.refl _ _|apply Below.next_alloc|apply Below.drew|(apply Below.next;rotate_left;assumption)))))).mono ?_); rintro e y11 ⟨rfl, hB11⟩)
    | (go_at_call 73; (with_reducible refine (F12.out _ (Below.next BW.out (by (repeat' (first|assumption|exact Below.refl _ _|apply Below.next_alloc|apply Below.drew|(apply Below.next;rotate_left;assumption)))))).mono ?_); rintro e y12 ⟨rfl, hB12⟩)
    | (go_at_call 72; (with_reducible refine (FF.out _ _).mono ?_); rintro e yf ⟨rfl, rfl⟩))
  go_wp2_with fail
  obtain ⟨u4, u5, u6, u7, u8, u9, u10, u11, u12⟩ := SL.out y12 (by (repeat' (first|assumption|exact Below.refl _ _|apply Below.next_alloc|apply Below.drew|(apply Below.next;rotate_left;assumption))))
  have BY := Lib.hid (show Below w1.heap.size w1 y12 by (repeat' (first|assumption|exact Below.refl _ _|apply Below.next_alloc|apply Below.drew|(apply Below.next;rotate_left;assumption))))
  have RY := RB.out.later BY.out
  have u0 := RY.2.1
  have hlt := RY.1
  clear RY
  go_wp2_with (first | (go_at_call 75; (with_reducible refine (FN.out _ (Below.next_alloc (Below.next BW.out BY.out) _)).mono ?_); rintro e w9 ⟨rfl, rfl⟩))
  all_goals
   try (exfalso; omega)
  all_goals
   go_ret
   exact ⟨ret_i (fin9t hr.out hN.out (by omega)).symm, Below.next BW.out (Below.next_alloc BY.out _)⟩
 ·have m3 : ¬ 0 < r.weekno.length := by omega
  have m4 : 5 ≤ r.freq := by omega
  go_enter Tryz.func37, Tryz.ntmps37
  go_wp2_with (first | (go_at_call 71; (with_reducible refine (FU.out _).mono ?_); rintro e w1 ⟨rfl, hB⟩))
  replace RB := Lib.hid (RB.out.later hB)
  have BW := Lib.hid (Below.next_allocs' hB)
  clear hB
  have SL : ∀ W, Below w1.heap.size w1 W → (W.cell? ⟨w.heap.size, 5, none⟩ = some (.slice a4 r.sec.length k4) ∧ W.cell? ⟨w.heap.size, 6, none⟩ = some (.slice a5 r.min.length k5) ∧ W.cell? ⟨w.heap.size, 7, none⟩ = some (.slice a6 r.hour.length k6) ∧ W.cell? ⟨w.heap.size, 8, none⟩ = some (.slice a7 r.day.length k7) ∧ W.cell? ⟨w.heap.size, 9, none⟩ = some (.slice a8 r.mday.length k8) ∧ W.cell? ⟨w.heap.size, 10, none⟩ = some (.slice a9 r.yday.length k9) ∧ W.cell? ⟨w.heap.size, 11, none⟩ = some (.slice a10 r.weekno.length k10) ∧ W.cell? ⟨w.heap.size, 12, none⟩ = some (.slice a11 r.month.length k11) ∧ W.cell? ⟨w.heap.size, 13, none⟩ = some (.slice a12 r.setpos.length k12)) := fun W hB => by
   have h := (RB.out.later hB).2.2.2.2.2.2.2
   exact ⟨(h 4 (by decide) (by decide)).trans (by rw [e4.out]), (h 5 (by decide) (by decide)).trans (by rw [e5.out]), (h 6 (by decide) (by decide)).trans (by rw [e6.out]), (h 7 (by decide) (by decide)).trans (by rw [e7.out]), (h 8 (by decide) (by decide)).trans (by rw [e8.out]), (h 9 (by decide) (by decide)).trans (by rw [e9.out]), (h 10 (by decide) (by decide)).trans (by rw [e10.out]), (h 11 (by decide) (by decide)).trans (by rw [e11.out]), (h 12 (by decide) (by decide)).trans (by rw [e12.out])⟩
  obtain ⟨s4, s5, s6, s7, s8, s9, s10, s11, s12⟩ := SL w1 (Below.refl _ _)
  replace SL := Lib.hid SL
  go_region_held3 (fun w' => w'.cell? ⟨w.heap.size, 5, none⟩ = some (.slice a4 r.sec.length k4) ∧ w'.cell? ⟨w.heap.size, 6, none⟩ = some (.slice a5 r.min.length k5) ∧ w'.cell? ⟨w.heap.size, 7, none⟩ = some (.slice a6 r.hour.length k6) ∧ w'.cell? ⟨w.heap.size, 8, none⟩ = some (.slice a7 r.day.length k7) ∧ w'.cell? ⟨w.heap.size, 9, none⟩ = some (.slice a8 r.mday.length k8) ∧ w'.cell? ⟨w.heap.size, 10, none⟩ = some (.slice a9 r.yday.length k9) ∧ w'.cell? ⟨w.heap.size, 11, none⟩ = some (.slice a10 r.weekno.length k10) ∧ w'.cell? ⟨w.heap.size, 12, none⟩ = some (.slice a11 r.month.length k11) ∧ w'.cell? ⟨w.heap.size, 13, none⟩ = some (.slice a12 r.setpos.length k12)) (first | go_keep | exact SL.out _ (by (repeat' (first|assumption|exact Below.refl _ _|apply Below.next_alloc|apply Below.drew|(apply Below.next;rotate_left;assumption)))))
   (first
    | (go_at_call 73; (with_reducible refine (F4.out _ (Below.next BW.out (by (repeat' (first|assumption|exact Below.refl _ _|apply Below.next_alloc|apply Below.drew|(apply Below.next;rotate_left;assumption)))))).mono ?_); rintro e y4 ⟨rfl, hB4⟩)
    | (go_at_call 73; (with_reducible refine (F5.out _ (Below.next BW.out (by (repeat' (first|assumption|exact Below.refl _ _|apply Below.next_alloc|apply Below.drew|(apply Below.next;rotate_left;assumption)))))).mono ?_); rintro e y5 ⟨rfl, hB5⟩)
    | (go_at_call 73; (with_reducible refine (F6.out _ (Below.next BW.out (by (repeat' (first|assumption|exact Below.refl _ _|apply Below.next_alloc|apply Below.drew|(apply Below.next;rotate_left;assumption)))))).mono ?_); rintro e y6 ⟨rfl, hB6⟩)
    | (go_at_call 74; (with_reducible refine (F7.out _ (Below.next BW.out (by (repeat' (first|assumption|exact Below.refl _ _|apply Below.next_alloc|apply Below.drew|(apply Below.next;rotate_left;assumption)))))).mono ?_); rintro e y7 ⟨rfl, hB7⟩)
    | (go_at_call 73; (with_reducible refine (F8.out _ (Below.next BW.out (by (repeat' (first|assumption|exact Below.refl _ _|apply Below.next_alloc|apply Below.drew|(apply Below.next;rotate_left;assumption)))))).mono ?_); rintro e y8 ⟨rfl, hB8⟩)
    | (go_at_call 73; (with_reducible refine (F9.out _ (Below.next BW.out (by (repeat' (first|assumption|exact Below.refl _ _|apply Below.next_alloc|apply Below.drew|(apply Below.next;rotate_left;assumption)))))).mono ?_); rintro e y9 ⟨rfl, hB9⟩)
    | (go_at_call 73; (with_reducible refine (F10.out _ (Below.next BW.out (by (repeat' (first|assumption|exact Below.refl _ _|apply Below.next_alloc|apply Below.drew|(apply Below.next;rotate_left;assumption)))))).mono ?_); rintro e y10 ⟨rfl, hB10⟩)
    | (go_at_call 73; (with_reducible refine (F11.out _ (Below.next BW.out (by (repeat' (first|assumption|exact Below.refl _ _|apply Below.next_alloc|apply Below.drew|(apply Below.next;rotate_left;assumption)))))).mono ?_); rintro e y11 ⟨rfl, hB11⟩)
    | (go_at_call 73; (with_reducible refine (F12.out _ (Below.next BW.out (by (repeat' (first|assumption|exact Below.refl _ _|apply Below.next_alloc|apply Below.drew|(apply Below.next;rotate_left;assumption)))))).mono ?_); rintro e y12 ⟨rfl, hB12⟩)
    | (go_at_call 72; (with_reducible refine (FF.out _ _).mono ?_); rintro e yf ⟨rfl, rfl⟩))
  go_wp2_with fail
  obtain ⟨u4, u5, u6, u7, u8, u9, u10, u11, u12⟩ := SL.out y12 (by (repeat' (first|assumption|exact Below.refl _ _|apply Below.next_alloc|apply Below.drew|(apply Below.next;rotate_left;assumption))))
  have BY := Lib.hid (show Below w1.heap.size w1 y12 by (repeat' (first|assumption|exact Below.refl _ _|apply Below.next_alloc|apply Below.drew|(apply Below.next;rotate_left;assumption))))
  have RY := RB.out.later BY.out
  have u0 := RY.2.1
  have hlt := RY.1
  clear RY
  go_wp2_with (first | (go_at_call 75; (with_reducible refine (FN.out _ (Below.next_alloc (Below.next BW.out BY.out) _)).mono ?_); rintro e w9 ⟨rfl, rfl⟩))
  all_goals
   try (exfalso; omega)
  all_goals
   go_ret
   (try simp only [beq_iff_eq, beq_eq_false_iff_ne, ne_eq] at *)
   first
    | exact ⟨ret_i (fin9t hr.out hN.out (by omega)).symm, Below.next BW.out (Below.next_alloc BY.out _)⟩
    | exact ⟨ret_i (fin0t hr.out hN.out (by omega)).symm, Below.next BW.out (Below.next_alloc BY.out _)⟩
end Go.Proofs.YtkbohijlhhpfbaaGreatDoor.Ra
