import Derived.Test.YtkbohijlhhpfbaaDoorXh
/- The walk of the law ExpandPicks (printed by gen_laws.py). -/
namespace Go.Proofs.YtkbohijlhhpfbaaDoor.Xp
open Go.RowKit Ru Ut Cw Ra
set_option maxHeartbeats 16000000 in
set_option maxRecDepth 100000 in
theorem lpick_no (w : World) (r : R) (sv : Nat → Value) (st n0 : Int) (hT : Tab w) (hL : Lists w r sv) (hn : ∀ q, 4 ≤ q → q ≤ 12 → q ≠ 7 → (lst r q).length ≤ 9223372036854775807) (hn7 : r.day.length ≤ 9223372036854775807) (hsm : smallR r = false) :
    Calls Tryd.prog 3 #[ruleV r sv, .int .u64 st, .int .u64 n0] w fun e w' => e = .returned (.bool true) ∧ Below w.heap.size w w' := by
  have FS : ∀ W, Below w.heap.size w W → Calls Tryd.prog 6 #[ruleV r sv] W fun e w' => e = .returned (.bool false) ∧ Below W.heap.size W w' := fun W hB => by
    have h := small_any W r sv (hL.later hB) hn hn7
    rwa [hsm] at h
  have AW := Lib.hid (fun W (hB : Below w.heap.size w W) => xawake_any W (hT.later hB))
  clear hL hn hn7 hT
  unfold ruleV ruleC at *
  replace FS := Lib.hid FS
  go_enter Tryd.func3, Tryd.ntmps3
  go_wp2_with (first
    | (go_at_call 6; (with_reducible refine (FS.out _ (by (repeat' (first | assumption | exact Below.refl _ _ | apply Below.next_alloc | apply Below.drew | (apply Below.next; rotate_left; assumption))))).mono ?_); rintro e w1 ⟨rfl, hB1⟩; have b1 := Lib.hid (show Below w.heap.size w w1 from Below.next_allocs' hB1))
    | (go_at_call 7; (with_reducible refine (AW.out _ b1.out).mono ?_); rintro e w2 ⟨rfl, hB2⟩; have b2 := Lib.hid (Below.next b1.out hB2)))
  go_ret
  exact ⟨rfl, b2.out⟩
set_option maxHeartbeats 16000000 in
set_option maxRecDepth 100000 in
theorem lpick_none (w : World) (r : R) (sv : Nat → Value) (st n0 : Int) (hT : Tab w) (s0 : 0 ≤ st) (s1 : st ≤ 18446744073709551615) (u0 : 0 ≤ n0) (u1 : n0 ≤ 18446744073709551615) (hL : Lists w r sv) (hf : 0 ≤ r.freq ∧ 0 ≤ r.uk ∧ r.uk ≤ 255) (hx : ∀ q, 4 ≤ q → q ≤ 12 → q ≠ 7 → ∀ x ∈ lst r q, (Lit.int .i64 x).wf = true) (hn : ∀ q, 4 ≤ q → q ≤ 12 → q ≠ 7 → (lst r q).length ≤ 9223372036854775807) (hn7 : r.day.length ≤ 9223372036854775807) (hsm : smallR r = true) (h0 : r.setpos.length = 0) :
    Calls Tryd.prog 3 #[ruleV r sv, .int .u64 st, .int .u64 n0] w fun e w' => e = .returned (.bool true) ∧ Below w.heap.size w w' := by
  have FS : ∀ W, Below w.heap.size w W → Calls Tryd.prog 6 #[ruleV r sv] W fun e w' => e = .returned (.bool true) ∧ Below W.heap.size W w' := fun W hB => by
    have h := small_any W r sv (hL.later hB) hn hn7
    rwa [hsm] at h
  have hS := short_small hsm
  have hW : Wide r := ⟨hS, hf, hx⟩
  have FO : ∀ W, Below w.heap.size w W → Calls Tryd.prog 8 #[ruleV r sv] W (GivesQ W r) := fun W hB => (own_any W r sv (hL.later hB) hS).mono fun e w' h => givesQ h
  have AW := Lib.hid (fun W (hB : Below w.heap.size w W) => xawake_any W (hT.later hB))
  have RX := fun W => @Tm.rboxT w r sv 27 W
  have FI : ∀ W, Below w.heap.size w W → Calls Tryd.prog 9 #[.int .u8 r.freq, .int .i64 r.wkst, .int .i64 (n0 % 315537897600)] W fun e w' => e = .returned (.int .i64 (Pd.index r.freq r.wkst (n0 % 315537897600))) ∧ W = w' := fun W hB => index_any _ _ _ W (hT.later hB) hf.1
  have s2 : 0 ≤ st % 315537897600 ∧ st % 315537897600 ≤ 315537897599 := by omega
  have t2 : 0 ≤ n0 % 315537897600 ∧ n0 % 315537897600 ≤ 315537897599 := by omega
  have f0 := hf.1
  obtain ⟨i, hi⟩ : ∃ i, i = Pd.index r.freq r.wkst (n0 % 315537897600) := ⟨_, rfl⟩
  rw [← hi] at FI
  have HT := Lib.hid (fun W (hB : Below w.heap.size w W) => hT.later hB)
  have FA := Lib.hid (fun a1 c1 W hT hL => qAll hW (a := a1) (c := c1) (W := W) hT hL (st % 315537897600) i)
  have FF := Lib.hid (fun a1 c1 W hT hL => by have := qOf hW (a := a1) (c := c1) (W := W) hT hL (st % 315537897600) i; unfold ofE at this; rwa [if_pos h0] at this)
  have e0 : ((r.setpos.length : Int) == 0) = true := by rw [h0]; rfl
  replace h0 := Lib.hid h0
  unfold ruleV ruleC at *
  replace FS := Lib.hid FS
  replace FO := Lib.hid FO
  replace FI := Lib.hid FI
  replace RX := Lib.hid RX
  clear hL hn hn7 hx hf hS hT
  generalize hss : st % 315537897600 = s at *
  generalize htt : n0 % 315537897600 = t at *
  replace hi := Lib.hid hi
  go_enter Tryd.func3, Tryd.ntmps3
  go_wp2_with (first
    | (go_at_call 6; (with_reducible refine (FS.out _ (by (repeat' (first | assumption | exact Below.refl _ _ | apply Below.next_alloc | apply Below.drew | (apply Below.next; rotate_left; assumption))))).mono ?_); rintro e w1 ⟨rfl, hB1⟩; have b1 := Lib.hid (show Below w.heap.size w w1 from Below.next_allocs' hB1); obtain ⟨k, k0, k1, k2, k3, k4, k5, k6, k7, k8, k9, k10, k11, k12, k13, k14⟩ := RX.out w1 hB1; clear hB1)
    | (go_at_call 8; (with_reducible refine (FO.out _ b1.out).mono ?_); rintro e w2 ⟨a1, c1, rfl, hL2, hB2⟩; replace hL2 := Lib.hid hL2; clear k k0 k1 k2 k3 k4 k5 k6 k7 k8 k9 k10 k11 k12 k13 k14; have b2 := Lib.hid (Below.next b1.out hB2); clear hB2)
    | (go_at_call 9; (with_reducible refine (FI.out _ (Below.next_alloc b2.out _)).mono ?_); rintro e w3 ⟨rfl, rfl⟩))
  have BX := Lib.hid (fun W => @qBox r a1 c1 w2 34 W)
  have LX := Lib.hid (fun W (hB : Below (w2.alloc (.cells #[.int .u8 r.freq, .int .i64 r.interval, .int .i64 r.count, .int .u8 r.uk, .int .i64 r.us, .slice (a1 4) r.sec.length (c1 4), .slice (a1 5) r.min.length (c1 5), .slice (a1 6) r.hour.length (c1 6), .slice (a1 7) r.day.length (c1 7), .slice (a1 8) r.mday.length (c1 8), .slice (a1 9) r.yday.length (c1 9), .slice (a1 10) r.weekno.length (c1 10), .slice (a1 11) r.month.length (c1 11), .slice (a1 12) r.setpos.length (c1 12), .int .i64 r.wkst] 34)).heap.size (w2.alloc (.cells #[.int .u8 r.freq, .int .i64 r.interval, .int .i64 r.count, .int .u8 r.uk, .int .i64 r.us, .slice (a1 4) r.sec.length (c1 4), .slice (a1 5) r.min.length (c1 5), .slice (a1 6) r.hour.length (c1 6), .slice (a1 7) r.day.length (c1 7), .slice (a1 8) r.mday.length (c1 8), .slice (a1 9) r.yday.length (c1 9), .slice (a1 10) r.weekno.length (c1 10), .slice (a1 11) r.month.length (c1 11), .slice (a1 12) r.setpos.length (c1 12), .int .i64 r.wkst] 34)) W) => hL2.out.later (Below.next_allocs' hB))
  have LB := Lib.hid (fun W (hB : Below (w2.alloc (.cells #[.int .u8 r.freq, .int .i64 r.interval, .int .i64 r.count, .int .u8 r.uk, .int .i64 r.us, .slice (a1 4) r.sec.length (c1 4), .slice (a1 5) r.min.length (c1 5), .slice (a1 6) r.hour.length (c1 6), .slice (a1 7) r.day.length (c1 7), .slice (a1 8) r.mday.length (c1 8), .slice (a1 9) r.yday.length (c1 9), .slice (a1 10) r.weekno.length (c1 10), .slice (a1 11) r.month.length (c1 11), .slice (a1 12) r.setpos.length (c1 12), .int .i64 r.wkst] 34)).heap.size (w2.alloc (.cells #[.int .u8 r.freq, .int .i64 r.interval, .int .i64 r.count, .int .u8 r.uk, .int .i64 r.us, .slice (a1 4) r.sec.length (c1 4), .slice (a1 5) r.min.length (c1 5), .slice (a1 6) r.hour.length (c1 6), .slice (a1 7) r.day.length (c1 7), .slice (a1 8) r.mday.length (c1 8), .slice (a1 9) r.yday.length (c1 9), .slice (a1 10) r.weekno.length (c1 10), .slice (a1 11) r.month.length (c1 11), .slice (a1 12) r.setpos.length (c1 12), .int .i64 r.wkst] 34)) W) => Below.next_allocs' hB)
  have b3 := Lib.hid (Below.next_alloc b2.out (.cells #[.int .u8 r.freq, .int .i64 r.interval, .int .i64 r.count, .int .u8 r.uk, .int .i64 r.us, .slice (a1 4) r.sec.length (c1 4), .slice (a1 5) r.min.length (c1 5), .slice (a1 6) r.hour.length (c1 6), .slice (a1 7) r.day.length (c1 7), .slice (a1 8) r.mday.length (c1 8), .slice (a1 9) r.yday.length (c1 9), .slice (a1 10) r.weekno.length (c1 10), .slice (a1 11) r.month.length (c1 11), .slice (a1 12) r.setpos.length (c1 12), .int .i64 r.wkst] 34))
  have z3 : w2.heap.size < (w2.alloc (.cells #[.int .u8 r.freq, .int .i64 r.interval, .int .i64 r.count, .int .u8 r.uk, .int .i64 r.us, .slice (a1 4) r.sec.length (c1 4), .slice (a1 5) r.min.length (c1 5), .slice (a1 6) r.hour.length (c1 6), .slice (a1 7) r.day.length (c1 7), .slice (a1 8) r.mday.length (c1 8), .slice (a1 9) r.yday.length (c1 9), .slice (a1 10) r.weekno.length (c1 10), .slice (a1 11) r.month.length (c1 11), .slice (a1 12) r.setpos.length (c1 12), .int .i64 r.wkst] 34)).heap.size := by simp
  obtain ⟨y0, x0, x1, x2, x3, x4, x5, x6, x7, x8, x9, x10, x11, x12, x13, x14⟩ := BX.out _ (Below.refl _ _)
  generalize w2.alloc (.cells #[.int .u8 r.freq, .int .i64 r.interval, .int .i64 r.count, .int .u8 r.uk, .int .i64 r.us, .slice (a1 4) r.sec.length (c1 4), .slice (a1 5) r.min.length (c1 5), .slice (a1 6) r.hour.length (c1 6), .slice (a1 7) r.day.length (c1 7), .slice (a1 8) r.mday.length (c1 8), .slice (a1 9) r.yday.length (c1 9), .slice (a1 10) r.weekno.length (c1 10), .slice (a1 11) r.month.length (c1 11), .slice (a1 12) r.setpos.length (c1 12), .int .i64 r.wkst] 34) = W0 at *
  have SL := Lib.hid (fun W (hB : Below W0.heap.size W0 W) => (BX.out W hB).2)
  go_region_held3 (fun w' => w'.cell? ⟨w2.heap.size, 0, none⟩ = some (.int .u8 r.freq) ∧ w'.cell? ⟨w2.heap.size, 1, none⟩ = some (.int .i64 r.interval) ∧ w'.cell? ⟨w2.heap.size, 2, none⟩ = some (.int .i64 r.count) ∧ w'.cell? ⟨w2.heap.size, 3, none⟩ = some (.int .u8 r.uk) ∧ w'.cell? ⟨w2.heap.size, 4, none⟩ = some (.int .i64 r.us) ∧ w'.cell? ⟨w2.heap.size, 5, none⟩ = some (.slice (a1 4) r.sec.length (c1 4)) ∧ w'.cell? ⟨w2.heap.size, 6, none⟩ = some (.slice (a1 5) r.min.length (c1 5)) ∧ w'.cell? ⟨w2.heap.size, 7, none⟩ = some (.slice (a1 6) r.hour.length (c1 6)) ∧ w'.cell? ⟨w2.heap.size, 8, none⟩ = some (.slice (a1 7) r.day.length (c1 7)) ∧ w'.cell? ⟨w2.heap.size, 9, none⟩ = some (.slice (a1 8) r.mday.length (c1 8)) ∧ w'.cell? ⟨w2.heap.size, 10, none⟩ = some (.slice (a1 9) r.yday.length (c1 9)) ∧ w'.cell? ⟨w2.heap.size, 11, none⟩ = some (.slice (a1 10) r.weekno.length (c1 10)) ∧ w'.cell? ⟨w2.heap.size, 12, none⟩ = some (.slice (a1 11) r.month.length (c1 11)) ∧ w'.cell? ⟨w2.heap.size, 13, none⟩ = some (.slice (a1 12) r.setpos.length (c1 12)) ∧ w'.cell? ⟨w2.heap.size, 14, none⟩ = some (.int .i64 r.wkst)) (first | go_keep | exact SL.out _ (by (repeat' (first | assumption | exact Below.refl _ _ | apply Below.next_alloc | apply Below.drew | (apply Below.next; rotate_left; assumption)))))
    (first
      | (go_at_call 10; (with_reducible refine (FA.out a1 c1 _ (HT.out _ (Below.next b3.out (by (repeat' (first | assumption | exact Below.refl _ _ | apply Below.next_alloc | apply Below.drew | (apply Below.next; rotate_left; assumption)))))) (LX.out _ (by (repeat' (first | assumption | exact Below.refl _ _ | apply Below.next_alloc | apply Below.drew | (apply Below.next; rotate_left; assumption)))))).mono ?_); rintro e y1 ⟨v1, rfl, hO1, hC1⟩)
      | (go_at_call 11; (with_reducible refine (FF.out a1 c1 _ (HT.out _ (Below.next b3.out (by (repeat' (first | assumption | exact Below.refl _ _ | apply Below.next_alloc | apply Below.drew | (apply Below.next; rotate_left; assumption)))))) (LX.out _ (by (repeat' (first | assumption | exact Below.refl _ _ | apply Below.next_alloc | apply Below.drew | (apply Below.next; rotate_left; assumption)))))).mono ?_); rintro e y2 ⟨v2, rfl, hO2, hC2⟩))
  obtain ⟨p1, q1, rfl⟩ := OwnI.slice hO1
  obtain ⟨p2, q2, rfl⟩ := OwnI.slice hO2
  clear hO1 hO2 y0 x0 x1 x2 x3 x4 x5 x6 x7 x8 x9 x10 x11 x12 x13 x14
  have b4 := Lib.hid (show Below W0.heap.size W0 y2 by (repeat' (first | assumption | exact Below.refl _ _ | apply Below.next_alloc | apply Below.drew | (apply Below.next; rotate_left; assumption))))
  obtain ⟨y0, x0, x1, x2, x3, x4, x5, x6, x7, x8, x9, x10, x11, x12, x13, x14⟩ := BX.out y2 b4.out
  go_wp2_with (first
    | (go_at_call 7; (with_reducible refine (AW.out _ (Below.next b3.out b4.out)).mono ?_); rintro e w5 ⟨rfl, hB5⟩))
  go_ret
  exact ⟨rfl, Below.next (Below.next b3.out b4.out) hB5⟩
set_option maxHeartbeats 16000000 in
set_option maxRecDepth 100000 in
theorem lpick_bad (w : World) (r : R) (sv : Nat → Value) (st n0 : Int) (hT : Tab w) (s0 : 0 ≤ st) (s1 : st ≤ 18446744073709551615) (u0 : 0 ≤ n0) (u1 : n0 ≤ 18446744073709551615) (hL : Lists w r sv) (hf : 0 ≤ r.freq ∧ 0 ≤ r.uk ∧ r.uk ≤ 255) (hx : ∀ q, 4 ≤ q → q ≤ 12 → q ≠ 7 → ∀ x ∈ lst r q, (Lit.int .i64 x).wf = true) (hn : ∀ q, 4 ≤ q → q ≤ 12 → q ≠ 7 → (lst r q).length ≤ 9223372036854775807) (hn7 : r.day.length ≤ 9223372036854775807) (hsm : smallR r = true) (h0 : 0 < r.setpos.length) (hc : ¬ chkR r = 0) :
    Calls Tryd.prog 3 #[ruleV r sv, .int .u64 st, .int .u64 n0] w fun e w' => e = .returned (.bool true) ∧ Below w.heap.size w w' := by
  have FS : ∀ W, Below w.heap.size w W → Calls Tryd.prog 6 #[ruleV r sv] W fun e w' => e = .returned (.bool true) ∧ Below W.heap.size W w' := fun W hB => by
    have h := small_any W r sv (hL.later hB) hn hn7
    rwa [hsm] at h
  have hS := short_small hsm
  have hW : Wide r := ⟨hS, hf, hx⟩
  have FO : ∀ W, Below w.heap.size w W → Calls Tryd.prog 8 #[ruleV r sv] W (GivesQ W r) := fun W hB => (own_any W r sv (hL.later hB) hS).mono fun e w' h => givesQ h
  have AW := Lib.hid (fun W (hB : Below w.heap.size w W) => xawake_any W (hT.later hB))
  have RX := fun W => @Tm.rboxT w r sv 27 W
  have FI : ∀ W, Below w.heap.size w W → Calls Tryd.prog 9 #[.int .u8 r.freq, .int .i64 r.wkst, .int .i64 (n0 % 315537897600)] W fun e w' => e = .returned (.int .i64 (Pd.index r.freq r.wkst (n0 % 315537897600))) ∧ W = w' := fun W hB => index_any _ _ _ W (hT.later hB) hf.1
  have s2 : 0 ≤ st % 315537897600 ∧ st % 315537897600 ≤ 315537897599 := by omega
  have t2 : 0 ≤ n0 % 315537897600 ∧ n0 % 315537897600 ≤ 315537897599 := by omega
  have f0 := hf.1
  obtain ⟨i, hi⟩ : ∃ i, i = Pd.index r.freq r.wkst (n0 % 315537897600) := ⟨_, rfl⟩
  rw [← hi] at FI
  have HT := Lib.hid (fun W (hB : Below w.heap.size w W) => hT.later hB)
  have FA := Lib.hid (fun a1 c1 W hT hL => qAll hW (a := a1) (c := c1) (W := W) hT hL (st % 315537897600) i)
  have FF := Lib.hid (fun a1 c1 W hT hL => by have := qOf hW (a := a1) (c := c1) (W := W) hT hL (st % 315537897600) i; rwa [ofE_nil (allE_none (none_of hc))] at this)
  have FC := Lib.hid (fun a1 c1 W hL => qCheck hW (a := a1) (c := c1) (W := W) hL)
  have e0 : ((r.setpos.length : Int) == 0) = false := by rw [beq_eq_false_iff_ne]; omega
  have e1 : (chkR r != 0) = true := by simp [hc]
  replace hc := Lib.hid hc
  unfold ruleV ruleC at *
  replace FS := Lib.hid FS
  replace FO := Lib.hid FO
  replace FI := Lib.hid FI
  replace RX := Lib.hid RX
  clear hL hn hn7 hx hf hS hT
  generalize hss : st % 315537897600 = s at *
  generalize htt : n0 % 315537897600 = t at *
  replace hi := Lib.hid hi
  go_enter Tryd.func3, Tryd.ntmps3
  go_wp2_with (first
    | (go_at_call 6; (with_reducible refine (FS.out _ (by (repeat' (first | assumption | exact Below.refl _ _ | apply Below.next_alloc | apply Below.drew | (apply Below.next; rotate_left; assumption))))).mono ?_); rintro e w1 ⟨rfl, hB1⟩; have b1 := Lib.hid (show Below w.heap.size w w1 from Below.next_allocs' hB1); obtain ⟨k, k0, k1, k2, k3, k4, k5, k6, k7, k8, k9, k10, k11, k12, k13, k14⟩ := RX.out w1 hB1; clear hB1)
    | (go_at_call 8; (with_reducible refine (FO.out _ b1.out).mono ?_); rintro e w2 ⟨a1, c1, rfl, hL2, hB2⟩; replace hL2 := Lib.hid hL2; clear k k0 k1 k2 k3 k4 k5 k6 k7 k8 k9 k10 k11 k12 k13 k14; have b2 := Lib.hid (Below.next b1.out hB2); clear hB2)
    | (go_at_call 9; (with_reducible refine (FI.out _ (Below.next_alloc b2.out _)).mono ?_); rintro e w3 ⟨rfl, rfl⟩))
  have BX := Lib.hid (fun W => @qBox r a1 c1 w2 34 W)
  have LX := Lib.hid (fun W (hB : Below (w2.alloc (.cells #[.int .u8 r.freq, .int .i64 r.interval, .int .i64 r.count, .int .u8 r.uk, .int .i64 r.us, .slice (a1 4) r.sec.length (c1 4), .slice (a1 5) r.min.length (c1 5), .slice (a1 6) r.hour.length (c1 6), .slice (a1 7) r.day.length (c1 7), .slice (a1 8) r.mday.length (c1 8), .slice (a1 9) r.yday.length (c1 9), .slice (a1 10) r.weekno.length (c1 10), .slice (a1 11) r.month.length (c1 11), .slice (a1 12) r.setpos.length (c1 12), .int .i64 r.wkst] 34)).heap.size (w2.alloc (.cells #[.int .u8 r.freq, .int .i64 r.interval, .int .i64 r.count, .int .u8 r.uk, .int .i64 r.us, .slice (a1 4) r.sec.length (c1 4), .slice (a1 5) r.min.length (c1 5), .slice (a1 6) r.hour.length (c1 6), .slice (a1 7) r.day.length (c1 7), .slice (a1 8) r.mday.length (c1 8), .slice (a1 9) r.yday.length (c1 9), .slice (a1 10) r.weekno.length (c1 10), .slice (a1 11) r.month.length (c1 11), .slice (a1 12) r.setpos.length (c1 12), .int .i64 r.wkst] 34)) W) => hL2.out.later (Below.next_allocs' hB))
  have LB := Lib.hid (fun W (hB : Below (w2.alloc (.cells #[.int .u8 r.freq, .int .i64 r.interval, .int .i64 r.count, .int .u8 r.uk, .int .i64 r.us, .slice (a1 4) r.sec.length (c1 4), .slice (a1 5) r.min.length (c1 5), .slice (a1 6) r.hour.length (c1 6), .slice (a1 7) r.day.length (c1 7), .slice (a1 8) r.mday.length (c1 8), .slice (a1 9) r.yday.length (c1 9), .slice (a1 10) r.weekno.length (c1 10), .slice (a1 11) r.month.length (c1 11), .slice (a1 12) r.setpos.length (c1 12), .int .i64 r.wkst] 34)).heap.size (w2.alloc (.cells #[.int .u8 r.freq, .int .i64 r.interval, .int .i64 r.count, .int .u8 r.uk, .int .i64 r.us, .slice (a1 4) r.sec.length (c1 4), .slice (a1 5) r.min.length (c1 5), .slice (a1 6) r.hour.length (c1 6), .slice (a1 7) r.day.length (c1 7), .slice (a1 8) r.mday.length (c1 8), .slice (a1 9) r.yday.length (c1 9), .slice (a1 10) r.weekno.length (c1 10), .slice (a1 11) r.month.length (c1 11), .slice (a1 12) r.setpos.length (c1 12), .int .i64 r.wkst] 34)) W) => Below.next_allocs' hB)
  have b3 := Lib.hid (Below.next_alloc b2.out (.cells #[.int .u8 r.freq, .int .i64 r.interval, .int .i64 r.count, .int .u8 r.uk, .int .i64 r.us, .slice (a1 4) r.sec.length (c1 4), .slice (a1 5) r.min.length (c1 5), .slice (a1 6) r.hour.length (c1 6), .slice (a1 7) r.day.length (c1 7), .slice (a1 8) r.mday.length (c1 8), .slice (a1 9) r.yday.length (c1 9), .slice (a1 10) r.weekno.length (c1 10), .slice (a1 11) r.month.length (c1 11), .slice (a1 12) r.setpos.length (c1 12), .int .i64 r.wkst] 34))
  have z3 : w2.heap.size < (w2.alloc (.cells #[.int .u8 r.freq, .int .i64 r.interval, .int .i64 r.count, .int .u8 r.uk, .int .i64 r.us, .slice (a1 4) r.sec.length (c1 4), .slice (a1 5) r.min.length (c1 5), .slice (a1 6) r.hour.length (c1 6), .slice (a1 7) r.day.length (c1 7), .slice (a1 8) r.mday.length (c1 8), .slice (a1 9) r.yday.length (c1 9), .slice (a1 10) r.weekno.length (c1 10), .slice (a1 11) r.month.length (c1 11), .slice (a1 12) r.setpos.length (c1 12), .int .i64 r.wkst] 34)).heap.size := by simp
  obtain ⟨y0, x0, x1, x2, x3, x4, x5, x6, x7, x8, x9, x10, x11, x12, x13, x14⟩ := BX.out _ (Below.refl _ _)
  generalize w2.alloc (.cells #[.int .u8 r.freq, .int .i64 r.interval, .int .i64 r.count, .int .u8 r.uk, .int .i64 r.us, .slice (a1 4) r.sec.length (c1 4), .slice (a1 5) r.min.length (c1 5), .slice (a1 6) r.hour.length (c1 6), .slice (a1 7) r.day.length (c1 7), .slice (a1 8) r.mday.length (c1 8), .slice (a1 9) r.yday.length (c1 9), .slice (a1 10) r.weekno.length (c1 10), .slice (a1 11) r.month.length (c1 11), .slice (a1 12) r.setpos.length (c1 12), .int .i64 r.wkst] 34) = W0 at *
  have SL := Lib.hid (fun W (hB : Below W0.heap.size W0 W) => (BX.out W hB).2)
  go_region_held3 (fun w' => w'.cell? ⟨w2.heap.size, 0, none⟩ = some (.int .u8 r.freq) ∧ w'.cell? ⟨w2.heap.size, 1, none⟩ = some (.int .i64 r.interval) ∧ w'.cell? ⟨w2.heap.size, 2, none⟩ = some (.int .i64 r.count) ∧ w'.cell? ⟨w2.heap.size, 3, none⟩ = some (.int .u8 r.uk) ∧ w'.cell? ⟨w2.heap.size, 4, none⟩ = some (.int .i64 r.us) ∧ w'.cell? ⟨w2.heap.size, 5, none⟩ = some (.slice (a1 4) r.sec.length (c1 4)) ∧ w'.cell? ⟨w2.heap.size, 6, none⟩ = some (.slice (a1 5) r.min.length (c1 5)) ∧ w'.cell? ⟨w2.heap.size, 7, none⟩ = some (.slice (a1 6) r.hour.length (c1 6)) ∧ w'.cell? ⟨w2.heap.size, 8, none⟩ = some (.slice (a1 7) r.day.length (c1 7)) ∧ w'.cell? ⟨w2.heap.size, 9, none⟩ = some (.slice (a1 8) r.mday.length (c1 8)) ∧ w'.cell? ⟨w2.heap.size, 10, none⟩ = some (.slice (a1 9) r.yday.length (c1 9)) ∧ w'.cell? ⟨w2.heap.size, 11, none⟩ = some (.slice (a1 10) r.weekno.length (c1 10)) ∧ w'.cell? ⟨w2.heap.size, 12, none⟩ = some (.slice (a1 11) r.month.length (c1 11)) ∧ w'.cell? ⟨w2.heap.size, 13, none⟩ = some (.slice (a1 12) r.setpos.length (c1 12)) ∧ w'.cell? ⟨w2.heap.size, 14, none⟩ = some (.int .i64 r.wkst)) (first | go_keep | exact SL.out _ (by (repeat' (first | assumption | exact Below.refl _ _ | apply Below.next_alloc | apply Below.drew | (apply Below.next; rotate_left; assumption)))))
    (first
      | (go_at_call 10; (with_reducible refine (FA.out a1 c1 _ (HT.out _ (Below.next b3.out (by (repeat' (first | assumption | exact Below.refl _ _ | apply Below.next_alloc | apply Below.drew | (apply Below.next; rotate_left; assumption)))))) (LX.out _ (by (repeat' (first | assumption | exact Below.refl _ _ | apply Below.next_alloc | apply Below.drew | (apply Below.next; rotate_left; assumption)))))).mono ?_); rintro e y1 ⟨v1, rfl, hO1, hC1⟩)
      | (go_at_call 11; (with_reducible refine (FF.out a1 c1 _ (HT.out _ (Below.next b3.out (by (repeat' (first | assumption | exact Below.refl _ _ | apply Below.next_alloc | apply Below.drew | (apply Below.next; rotate_left; assumption)))))) (LX.out _ (by (repeat' (first | assumption | exact Below.refl _ _ | apply Below.next_alloc | apply Below.drew | (apply Below.next; rotate_left; assumption)))))).mono ?_); rintro e y2 ⟨v2, rfl, hO2, hC2⟩))
  obtain ⟨p1, q1, rfl⟩ := OwnI.slice hO1
  obtain ⟨p2, q2, rfl⟩ := OwnI.slice hO2
  clear hO1 hO2 y0 x0 x1 x2 x3 x4 x5 x6 x7 x8 x9 x10 x11 x12 x13 x14
  have b4 := Lib.hid (show Below W0.heap.size W0 y2 by (repeat' (first | assumption | exact Below.refl _ _ | apply Below.next_alloc | apply Below.drew | (apply Below.next; rotate_left; assumption))))
  obtain ⟨y0, x0, x1, x2, x3, x4, x5, x6, x7, x8, x9, x10, x11, x12, x13, x14⟩ := BX.out y2 b4.out
  go_wp2_with (first
    | (go_at_call 12; (with_reducible refine (FC.out a1 c1 _ (LX.out _ b4.out)).mono ?_); rintro e w4 ⟨rfl, hB4⟩; have b5 := Lib.hid (Below.next b4.out hB4))
    | (go_at_call 7; (with_reducible refine (AW.out _ (Below.next b3.out b5.out)).mono ?_); rintro e w5 ⟨rfl, hB5⟩))
  go_ret
  exact ⟨rfl, Below.next (Below.next b3.out b5.out) hB5⟩
end Go.Proofs.YtkbohijlhhpfbaaDoor.Xp

/- The walk of the law ExpandPicks: where SetPos picks (printed by gen_laws.py). -/
namespace Go.Proofs.YtkbohijlhhpfbaaDoor.Xp
open Go.RowKit Ru Ut Cw Ra
set_option maxHeartbeats 16000000 in
set_option maxRecDepth 100000 in
theorem lpick_main (w : World) (r : R) (sv : Nat → Value) (st n0 : Int) (hT : Tab w) (s0 : 0 ≤ st) (s1 : st ≤ 18446744073709551615) (u0 : 0 ≤ n0) (u1 : n0 ≤ 18446744073709551615) (hL : Lists w r sv) (hf : 0 ≤ r.freq ∧ 0 ≤ r.uk ∧ r.uk ≤ 255) (hx : ∀ q, 4 ≤ q → q ≤ 12 → q ≠ 7 → ∀ x ∈ lst r q, (Lit.int .i64 x).wf = true) (hn : ∀ q, 4 ≤ q → q ≤ 12 → q ≠ 7 → (lst r q).length ≤ 9223372036854775807) (hn7 : r.day.length ≤ 9223372036854775807) (hsm : smallR r = true) (h0 : 0 < r.setpos.length) (hc : chkR r = 0) :
    Calls Tryd.prog 3 #[ruleV r sv, .int .u64 st, .int .u64 n0] w fun e w' => e = .returned (.bool true) ∧ Below w.heap.size w w' := by
  have FS : ∀ W, Below w.heap.size w W → Calls Tryd.prog 6 #[ruleV r sv] W fun e w' => e = .returned (.bool true) ∧ Below W.heap.size W w' := fun W hB => by
    have h := small_any W r sv (hL.later hB) hn hn7
    rwa [hsm] at h
  have hS := short_small hsm
  have hW : Wide r := ⟨hS, hf, hx⟩
  have FO : ∀ W, Below w.heap.size w W → Calls Tryd.prog 8 #[ruleV r sv] W (GivesQ W r) := fun W hB => (own_any W r sv (hL.later hB) hS).mono fun e w' h => givesQ h
  have AW := Lib.hid (fun W (hB : Below w.heap.size w W) => xawake_any W (hT.later hB))
  have RX := fun W => @Tm.rboxT w r sv 27 W
  have FI : ∀ W, Below w.heap.size w W → Calls Tryd.prog 9 #[.int .u8 r.freq, .int .i64 r.wkst, .int .i64 (n0 % 315537897600)] W fun e w' => e = .returned (.int .i64 (Pd.index r.freq r.wkst (n0 % 315537897600))) ∧ W = w' := fun W hB => index_any _ _ _ W (hT.later hB) hf.1
  have s2 : 0 ≤ st % 315537897600 ∧ st % 315537897600 ≤ 315537897599 := by omega
  have t2 : 0 ≤ n0 % 315537897600 ∧ n0 % 315537897600 ≤ 315537897599 := by omega
  have f0 := hf.1
  obtain ⟨i, hi⟩ : ∃ i, i = Pd.index r.freq r.wkst (n0 % 315537897600) := ⟨_, rfl⟩
  rw [← hi] at FI
  have HT := Lib.hid (fun W (hB : Below w.heap.size w W) => hT.later hB)
  have FA := Lib.hid (fun a1 c1 W hT hL => qAll hW (a := a1) (c := c1) (W := W) hT hL (st % 315537897600) i)
  have FF := Lib.hid (fun a1 c1 W hT hL => by have := qOf hW (a := a1) (c := c1) (W := W) hT hL (st % 315537897600) i; unfold ofE at this; rwa [if_neg (by omega)] at this)
  have FC := Lib.hid (fun a1 c1 W hL => by have := qCheck hW (a := a1) (c := c1) (W := W) hL; rwa [hc] at this)
  have e0 : ((r.setpos.length : Int) == 0) = false := by rw [beq_eq_false_iff_ne]; omega
  have hl := allE_len r (st % 315537897600) i
  obtain ⟨p1, p2⟩ := setpos_fine hc
  replace p2 := Lib.hid (fun x hx => (⟨(p2 x hx).1, (p2 x hx).2, setpos_nz hc x hx⟩ : -366 ≤ x ∧ x ≤ 366 ∧ x ≠ 0))
  unfold ruleV ruleC at *
  replace FS := Lib.hid FS
  replace FO := Lib.hid FO
  replace FI := Lib.hid FI
  replace RX := Lib.hid RX
  clear hL hn hn7 hx hf hS hT
  generalize hss : st % 315537897600 = s at *
  generalize htt : n0 % 315537897600 = t at *
  replace hi := Lib.hid hi
  go_enter Tryd.func3, Tryd.ntmps3
  go_wp2_with (first
    | (go_at_call 6; (with_reducible refine (FS.out _ (by (repeat' (first | assumption | exact Below.refl _ _ | apply Below.next_alloc | apply Below.drew | (apply Below.next; rotate_left; assumption))))).mono ?_); rintro e w1 ⟨rfl, hB1⟩; have b1 := Lib.hid (show Below w.heap.size w w1 from Below.next_allocs' hB1); obtain ⟨k, k0, k1, k2, k3, k4, k5, k6, k7, k8, k9, k10, k11, k12, k13, k14⟩ := RX.out w1 hB1; clear hB1)
    | (go_at_call 8; (with_reducible refine (FO.out _ b1.out).mono ?_); rintro e w2 ⟨a1, c1, rfl, hL2, hB2⟩; replace hL2 := Lib.hid hL2; clear k k0 k1 k2 k3 k4 k5 k6 k7 k8 k9 k10 k11 k12 k13 k14; have b2 := Lib.hid (Below.next b1.out hB2); clear hB2)
    | (go_at_call 9; (with_reducible refine (FI.out _ (Below.next_alloc b2.out _)).mono ?_); rintro e w3 ⟨rfl, rfl⟩))
  have BX := Lib.hid (fun W => @qBox r a1 c1 w2 34 W)
  have LX := Lib.hid (fun W (hB : Below (w2.alloc (.cells #[.int .u8 r.freq, .int .i64 r.interval, .int .i64 r.count, .int .u8 r.uk, .int .i64 r.us, .slice (a1 4) r.sec.length (c1 4), .slice (a1 5) r.min.length (c1 5), .slice (a1 6) r.hour.length (c1 6), .slice (a1 7) r.day.length (c1 7), .slice (a1 8) r.mday.length (c1 8), .slice (a1 9) r.yday.length (c1 9), .slice (a1 10) r.weekno.length (c1 10), .slice (a1 11) r.month.length (c1 11), .slice (a1 12) r.setpos.length (c1 12), .int .i64 r.wkst] 34)).heap.size (w2.alloc (.cells #[.int .u8 r.freq, .int .i64 r.interval, .int .i64 r.count, .int .u8 r.uk, .int .i64 r.us, .slice (a1 4) r.sec.length (c1 4), .slice (a1 5) r.min.length (c1 5), .slice (a1 6) r.hour.length (c1 6), .slice (a1 7) r.day.length (c1 7), .slice (a1 8) r.mday.length (c1 8), .slice (a1 9) r.yday.length (c1 9), .slice (a1 10) r.weekno.length (c1 10), .slice (a1 11) r.month.length (c1 11), .slice (a1 12) r.setpos.length (c1 12), .int .i64 r.wkst] 34)) W) => hL2.out.later (Below.next_allocs' hB))
  have LB := Lib.hid (fun W (hB : Below (w2.alloc (.cells #[.int .u8 r.freq, .int .i64 r.interval, .int .i64 r.count, .int .u8 r.uk, .int .i64 r.us, .slice (a1 4) r.sec.length (c1 4), .slice (a1 5) r.min.length (c1 5), .slice (a1 6) r.hour.length (c1 6), .slice (a1 7) r.day.length (c1 7), .slice (a1 8) r.mday.length (c1 8), .slice (a1 9) r.yday.length (c1 9), .slice (a1 10) r.weekno.length (c1 10), .slice (a1 11) r.month.length (c1 11), .slice (a1 12) r.setpos.length (c1 12), .int .i64 r.wkst] 34)).heap.size (w2.alloc (.cells #[.int .u8 r.freq, .int .i64 r.interval, .int .i64 r.count, .int .u8 r.uk, .int .i64 r.us, .slice (a1 4) r.sec.length (c1 4), .slice (a1 5) r.min.length (c1 5), .slice (a1 6) r.hour.length (c1 6), .slice (a1 7) r.day.length (c1 7), .slice (a1 8) r.mday.length (c1 8), .slice (a1 9) r.yday.length (c1 9), .slice (a1 10) r.weekno.length (c1 10), .slice (a1 11) r.month.length (c1 11), .slice (a1 12) r.setpos.length (c1 12), .int .i64 r.wkst] 34)) W) => Below.next_allocs' hB)
  have b3 := Lib.hid (Below.next_alloc b2.out (.cells #[.int .u8 r.freq, .int .i64 r.interval, .int .i64 r.count, .int .u8 r.uk, .int .i64 r.us, .slice (a1 4) r.sec.length (c1 4), .slice (a1 5) r.min.length (c1 5), .slice (a1 6) r.hour.length (c1 6), .slice (a1 7) r.day.length (c1 7), .slice (a1 8) r.mday.length (c1 8), .slice (a1 9) r.yday.length (c1 9), .slice (a1 10) r.weekno.length (c1 10), .slice (a1 11) r.month.length (c1 11), .slice (a1 12) r.setpos.length (c1 12), .int .i64 r.wkst] 34))
  have z3 : w2.heap.size < (w2.alloc (.cells #[.int .u8 r.freq, .int .i64 r.interval, .int .i64 r.count, .int .u8 r.uk, .int .i64 r.us, .slice (a1 4) r.sec.length (c1 4), .slice (a1 5) r.min.length (c1 5), .slice (a1 6) r.hour.length (c1 6), .slice (a1 7) r.day.length (c1 7), .slice (a1 8) r.mday.length (c1 8), .slice (a1 9) r.yday.length (c1 9), .slice (a1 10) r.weekno.length (c1 10), .slice (a1 11) r.month.length (c1 11), .slice (a1 12) r.setpos.length (c1 12), .int .i64 r.wkst] 34)).heap.size := by simp
  obtain ⟨y0, x0, x1, x2, x3, x4, x5, x6, x7, x8, x9, x10, x11, x12, x13, x14⟩ := BX.out _ (Below.refl _ _)
  generalize w2.alloc (.cells #[.int .u8 r.freq, .int .i64 r.interval, .int .i64 r.count, .int .u8 r.uk, .int .i64 r.us, .slice (a1 4) r.sec.length (c1 4), .slice (a1 5) r.min.length (c1 5), .slice (a1 6) r.hour.length (c1 6), .slice (a1 7) r.day.length (c1 7), .slice (a1 8) r.mday.length (c1 8), .slice (a1 9) r.yday.length (c1 9), .slice (a1 10) r.weekno.length (c1 10), .slice (a1 11) r.month.length (c1 11), .slice (a1 12) r.setpos.length (c1 12), .int .i64 r.wkst] 34) = W0 at *
  have SL := Lib.hid (fun W (hB : Below W0.heap.size W0 W) => (BX.out W hB).2)
  have i12 := Lib.hid (show Ints w2 (.slice (a1 12) r.setpos.length (c1 12)) r.setpos from hL2.out.1 12 (by decide) (by decide) (by decide))
  go_region_held3 (fun w' => w'.cell? ⟨w2.heap.size, 0, none⟩ = some (.int .u8 r.freq) ∧ w'.cell? ⟨w2.heap.size, 1, none⟩ = some (.int .i64 r.interval) ∧ w'.cell? ⟨w2.heap.size, 2, none⟩ = some (.int .i64 r.count) ∧ w'.cell? ⟨w2.heap.size, 3, none⟩ = some (.int .u8 r.uk) ∧ w'.cell? ⟨w2.heap.size, 4, none⟩ = some (.int .i64 r.us) ∧ w'.cell? ⟨w2.heap.size, 5, none⟩ = some (.slice (a1 4) r.sec.length (c1 4)) ∧ w'.cell? ⟨w2.heap.size, 6, none⟩ = some (.slice (a1 5) r.min.length (c1 5)) ∧ w'.cell? ⟨w2.heap.size, 7, none⟩ = some (.slice (a1 6) r.hour.length (c1 6)) ∧ w'.cell? ⟨w2.heap.size, 8, none⟩ = some (.slice (a1 7) r.day.length (c1 7)) ∧ w'.cell? ⟨w2.heap.size, 9, none⟩ = some (.slice (a1 8) r.mday.length (c1 8)) ∧ w'.cell? ⟨w2.heap.size, 10, none⟩ = some (.slice (a1 9) r.yday.length (c1 9)) ∧ w'.cell? ⟨w2.heap.size, 11, none⟩ = some (.slice (a1 10) r.weekno.length (c1 10)) ∧ w'.cell? ⟨w2.heap.size, 12, none⟩ = some (.slice (a1 11) r.month.length (c1 11)) ∧ w'.cell? ⟨w2.heap.size, 13, none⟩ = some (.slice (a1 12) r.setpos.length (c1 12)) ∧ w'.cell? ⟨w2.heap.size, 14, none⟩ = some (.int .i64 r.wkst)) (first | go_keep | exact SL.out _ (by (repeat' (first | assumption | exact Below.refl _ _ | apply Below.next_alloc | apply Below.drew | (apply Below.next; rotate_left; assumption)))))
    (first
      | (go_at_call 10; (with_reducible refine (FA.out a1 c1 _ (HT.out _ (Below.next b3.out (by (repeat' (first | assumption | exact Below.refl _ _ | apply Below.next_alloc | apply Below.drew | (apply Below.next; rotate_left; assumption)))))) (LX.out _ (by (repeat' (first | assumption | exact Below.refl _ _ | apply Below.next_alloc | apply Below.drew | (apply Below.next; rotate_left; assumption)))))).mono ?_); rintro e y1 ⟨v1, rfl, hO1, hC1⟩)
      | (go_at_call 11; (with_reducible refine (FF.out a1 c1 _ (HT.out _ (Below.next b3.out (by (repeat' (first | assumption | exact Below.refl _ _ | apply Below.next_alloc | apply Below.drew | (apply Below.next; rotate_left; assumption)))))) (LX.out _ (by (repeat' (first | assumption | exact Below.refl _ _ | apply Below.next_alloc | apply Below.drew | (apply Below.next; rotate_left; assumption)))))).mono ?_); rintro e y2 ⟨v2, rfl, hO2, hC2⟩))
  clear y0 x0 x1 x2 x3 x4 x5 x6 x7 x8 x9 x10 x11 x12 x13 x14
  have b4 := Lib.hid (show Below W0.heap.size W0 y2 by (repeat' (first | assumption | exact Below.refl _ _ | apply Below.next_alloc | apply Below.drew | (apply Below.next; rotate_left; assumption))))
  obtain ⟨y0, x0, x1, x2, x3, x4, x5, x6, x7, x8, x9, x10, x11, x12, x13, x14⟩ := BX.out y2 b4.out
  obtain ⟨q1, q2, rfl⟩ := OwnI.slice hO1
  obtain ⟨q3, q4, rfl⟩ := OwnI.slice hO2
  replace hO1 := Lib.hid hO1
  replace hO2 := Lib.hid hO2
  go_wp2_with (first
    | (go_at_call 12; (with_reducible refine (FC.out a1 c1 _ (LX.out _ b4.out)).mono ?_); rintro e w4 ⟨rfl, hB4⟩; have b5 := Lib.hid (Below.next b4.out hB4); have bw4 := Lib.hid (Below.next hC2 hB4); have i2 := Lib.hid (hO2.out.ints.below hB4); clear y0 x0 x1 x2 x3 x4 x5 x6 x7 x8 x9 x10 x11 x12 x13 x14))
  have bb5 := Lib.hid (Below.next b3.out b5.out)
  obtain ⟨y0, x0, x1, x2, x3, x4, x5, x6, x7, x8, x9, x10, x11, x12, x13, x14⟩ := BX.out w4 b5.out
  have i13 := Lib.hid (show Below w2.heap.size w2 w4 from LB.out _ b5.out)
  obtain ⟨j1, j2, j3⟩ := picks_law r.setpos (allE r s i)
  generalize allE r s i = l at *
  generalize r.setpos = ps at *
  have hcl := fun k => Nat.le_trans (cnt_le l.length (ps.take k)) (List.length_take_le k ps)
  replace hcl := Lib.hid hcl
  have hps : (picks ps l).length ≤ 100 := by have := cnt_le l.length ps; omega
  generalize hP : picks ps l = P at *
  replace hP := Lib.hid hP
  generalize a1 12 = A12 at *
  generalize c1 12 = C12 at *
  go_loop [13, 14] (fun pv kv => ∃ k : Nat, k ≤ ps.length ∧ kv = .int .i64 k ∧ pv = .int .i64 (cnt l.length (ps.take k))) (fun _ kv => ps.length - (intOf kv).toNat)
  case atStart => exact ⟨0, by omega, rfl, rfl⟩
  case round =>
    obtain ⟨k, hk, rfl, rfl⟩ := hrel
    have hck := hcl.out k
    by_cases hlt : k < ps.length
    · obtain ⟨bp, op, rfl, hbp, hcp, hcap⟩ := ints_at i12.out rfl i13.out hlt
      have hs := cnt_succ l.length hlt
      have hm := List.getElem_mem hlt
      obtain ⟨g1, g2, g3⟩ := p2.out ps[k] hm
      generalize ps[k] = p at *
      by_cases hp : 0 < p
      · have hpl : place l.length p = p - 1 := by unfold place; rw [if_pos (by omega)]
        by_cases hin : 0 ≤ p - 1 ∧ p - 1 < l.length
        · obtain ⟨kn, hkn⟩ : ∃ kn : Nat, p - 1 = kn := ⟨(p - 1).toNat, by omega⟩
          have hir : inr l.length p = true := by unfold inr; rw [hpl]; simp; omega
          have hmem := mem_picks hm hir
          rw [hpl, hkn, Int.toNat_natCast, hP.out] at hmem
          rw [if_pos hir] at hs
          have hlk : kn < l.length := by omega
          rw [List.getElem?_eq_getElem hlk, Option.getD_some] at hmem
          obtain ⟨ba, rfl, hba, hca, hcapa⟩ := own_at hO1.out bw4.out hlk
          have IN := in_any l[kn] i2.out (by omega)
          rw [decide_eq_true hmem] at IN
          replace IN := Lib.hid IN
          generalize l[kn] = y at *
          replace hs := Lib.hid hs
          clear hmem hm hir hpl
          obtain rfl : p = kn + 1 := by omega
          go_wp2_with (first | (go_at_call 13; (with_reducible refine IN.out.mono ?_); rintro e w5 ⟨rfl, rfl⟩))
          go_round
          case rel => exact ⟨k + 1, by omega, by go_num, by rw [hs.out]; go_num⟩
          case measure => simp [intOf]; omega
        · have hir : ¬ inr l.length p = true := by unfold inr; rw [hpl]; simp; omega
          rw [if_neg hir, Nat.add_zero] at hs
          replace hs := Lib.hid hs
          clear hm hir hpl
          go_wp2
          go_round
          case rel => exact ⟨k + 1, by omega, by go_num, by rw [hs.out, Nat.add_zero]⟩
          case measure => simp [intOf]; omega
      · have hpl : place l.length p = l.length + p := by unfold place; rw [if_neg (by omega)]
        by_cases hin : 0 ≤ l.length + p ∧ l.length + p < l.length
        · obtain ⟨kn, hkn⟩ : ∃ kn : Nat, l.length + p = kn := ⟨(l.length + p).toNat, by omega⟩
          have hir : inr l.length p = true := by unfold inr; rw [hpl]; simp; omega
          have hmem := mem_picks hm hir
          rw [hpl, hkn, Int.toNat_natCast, hP.out] at hmem
          rw [if_pos hir] at hs
          have hlk : kn < l.length := by omega
          rw [List.getElem?_eq_getElem hlk, Option.getD_some] at hmem
          obtain ⟨ba, rfl, hba, hca, hcapa⟩ := own_at hO1.out bw4.out hlk
          have IN := in_any l[kn] i2.out (by omega)
          rw [decide_eq_true hmem] at IN
          replace IN := Lib.hid IN
          generalize l[kn] = y at *
          replace hs := Lib.hid hs
          clear hmem hm hir hpl
          obtain rfl : p = kn - l.length := by omega
          go_wp2_with (first | (go_at_call 13; (with_reducible refine IN.out.mono ?_); rintro e w5 ⟨rfl, rfl⟩))
          go_round
          case rel => exact ⟨k + 1, by omega, by go_num, by rw [hs.out]; go_num⟩
          case measure => simp [intOf]; omega
        · have hir : ¬ inr l.length p = true := by unfold inr; rw [hpl]; simp; omega
          rw [if_neg hir, Nat.add_zero] at hs
          replace hs := Lib.hid hs
          clear hm hir hpl
          go_wp2
          go_round
          case rel => exact ⟨k + 1, by omega, by go_num, by rw [hs.out, Nat.add_zero]⟩
          case measure => simp [intOf]; omega
    · have hke : ps.take k = ps := by rw [show k = ps.length by omega, List.take_length]
      rw [hke]
      clear hcl hck i12 i13 p2 hke hP
      generalize cnt l.length ps = C at *
      have j4 : (P.length : Int) ≤ (C : Int) := by omega
      by_cases hC : C = 0
      · have d1 : ((C : Int) == 0) = true := by simp [hC]
        have d2 : ((P.length : Int) == (C : Int)) = true := by rw [beq_iff_eq]; omega
        clear j1 j2 j3 hC
        by_cases hq : 1 < ps.length
        · go_wp2_with (first
            | (go_at_call 7; (with_reducible refine (AW.out _ bb5.out).mono ?_); rintro e w5 ⟨rfl, hB5⟩))
          go_ret
          exact ⟨rfl, Below.next bb5.out hB5⟩
        · go_wp2_with (first
            | (go_at_call 7; (with_reducible refine (AW.out _ bb5.out).mono ?_); rintro e w5 ⟨rfl, hB5⟩))
          go_ret
          exact ⟨rfl, Below.next bb5.out hB5⟩
      · have d1 : ((C : Int) == 0) = false := by rw [beq_eq_false_iff_ne]; omega
        have d3 : 0 < P.length := by omega
        by_cases hq : 1 < ps.length
        · clear j1 j2 j3 hC
          go_wp2_with (first
            | (go_at_call 7; (with_reducible refine (AW.out _ bb5.out).mono ?_); rintro e w5 ⟨rfl, hB5⟩))
          go_ret
          exact ⟨rfl, Below.next bb5.out hB5⟩
        · have d2 : ((P.length : Int) == (C : Int)) = true := by rw [beq_iff_eq]; omega
          clear j1 j2 j3 hC
          go_wp2_with (first
            | (go_at_call 7; (with_reducible refine (AW.out _ bb5.out).mono ?_); rintro e w5 ⟨rfl, hB5⟩))
          go_ret
          exact ⟨rfl, Below.next bb5.out hB5⟩
theorem lpick_any (w : World) (r : R) (sv : Nat → Value) (st n0 : Int) (hT : Tab w) (s0 : 0 ≤ st ∧ st ≤ 18446744073709551615) (u0 : 0 ≤ n0 ∧ n0 ≤ 18446744073709551615) (hL : Lists w r sv) (hf : 0 ≤ r.freq ∧ 0 ≤ r.uk ∧ r.uk ≤ 255) (hx : ∀ q, 4 ≤ q → q ≤ 12 → q ≠ 7 → ∀ x ∈ lst r q, (Lit.int .i64 x).wf = true) (hn : ∀ q, 4 ≤ q → q ≤ 12 → q ≠ 7 → (lst r q).length ≤ 9223372036854775807) (hn7 : r.day.length ≤ 9223372036854775807) :
    Calls Tryd.prog 3 #[ruleV r sv, .int .u64 st, .int .u64 n0] w fun e w' => e = .returned (.bool true) ∧ Below w.heap.size w w' := by
  cases h : smallR r
  · exact lpick_no w r sv st n0 hT hL hn hn7 h
  · by_cases h0 : r.setpos.length = 0
    · exact lpick_none w r sv st n0 hT s0.1 s0.2 u0.1 u0.2 hL hf hx hn hn7 h h0
    · by_cases hc : chkR r = 0
      · exact lpick_main w r sv st n0 hT s0.1 s0.2 u0.1 u0.2 hL hf hx hn hn7 h (by omega) hc
      · exact lpick_bad w r sv st n0 hT s0.1 s0.2 u0.1 u0.2 hL hf hx hn hn7 h (by omega) hc
end Go.Proofs.YtkbohijlhhpfbaaDoor.Xp

