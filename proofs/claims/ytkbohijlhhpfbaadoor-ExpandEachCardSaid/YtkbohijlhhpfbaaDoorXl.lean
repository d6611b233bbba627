import Derived.Test.YtkbohijlhhpfbaaDoorXh
import Derived.IntWalk
/- The walk of the law ExpandEach (printed by gen_laws.py). -/
namespace Go.Proofs.YtkbohijlhhpfbaaDoor.Xp
open Go.RowKit Ru Ut Cw Ra
set_option maxHeartbeats 16000000 in
set_option maxRecDepth 100000 in
theorem leach_no (w : World) (r : R) (sv : Nat → Value) (st n0 : Int) (hT : Tab w) (hL : Lists w r sv) (hn : ∀ q, 4 ≤ q → q ≤ 12 → q ≠ 7 → (lst r q).length ≤ 9223372036854775807) (hn7 : r.day.length ≤ 9223372036854775807) (hsm : smallR r = false) :
    Calls Tryd.prog 4 #[ruleV r sv, .int .u64 st, .int .u64 n0] w fun e w' => e = .returned (.bool true) ∧ Below w.heap.size w w' := by
  have FS : ∀ W, Below w.heap.size w W → Calls Tryd.prog 6 #[ruleV r sv] W fun e w' => e = .returned (.bool false) ∧ Below W.heap.size W w' := fun W hB => by
    have h := small_any W r sv (hL.later hB) hn hn7
    rwa [hsm] at h
  have AW := Lib.hid (fun W (hB : Below w.heap.size w W) => xawake_any W (hT.later hB))
  clear hL hn hn7 hT
  unfold ruleV ruleC at *
  replace FS := Lib.hid FS
  go_enter Tryd.func4, Tryd.ntmps4
  go_wp2_with (first
    | (go_at_call 6; (with_reducible refine (FS.out _ (by (repeat' (first | assumption | exact Below.refl _ _ | apply Below.next_alloc | apply Below.drew | (apply Below.next; rotate_left; assumption))))).mono ?_); rintro e w1 ⟨rfl, hB1⟩; have b1 := Lib.hid (show Below w.heap.size w w1 from Below.next_allocs' hB1))
    | (go_at_call 7; (with_reducible refine (AW.out _ b1.out).mono ?_); rintro e w2 ⟨rfl, hB2⟩; have b2 := Lib.hid (Below.next b1.out hB2)))
  go_ret
  exact ⟨rfl, b2.out⟩
set_option maxHeartbeats 16000000 in
set_option maxRecDepth 100000 in
theorem leach_bad (w : World) (r : R) (sv : Nat → Value) (st n0 : Int) (hT : Tab w) (s0 : 0 ≤ st) (s1 : st ≤ 18446744073709551615) (u0 : 0 ≤ n0) (u1 : n0 ≤ 18446744073709551615) (hL : Lists w r sv) (hf : 0 ≤ r.freq ∧ 0 ≤ r.uk ∧ r.uk ≤ 255) (hx : ∀ q, 4 ≤ q → q ≤ 12 → q ≠ 7 → ∀ x ∈ lst r q, (Lit.int .i64 x).wf = true) (hn : ∀ q, 4 ≤ q → q ≤ 12 → q ≠ 7 → (lst r q).length ≤ 9223372036854775807) (hn7 : r.day.length ≤ 9223372036854775807) (hsm : smallR r = true) (hc : ¬ chkR r = 0) :
    Calls Tryd.prog 4 #[ruleV r sv, .int .u64 st, .int .u64 n0] w fun e w' => e = .returned (.bool true) ∧ Below w.heap.size w w' := by
  have FS : ∀ W, Below w.heap.size w W → Calls Tryd.prog 6 #[ruleV r sv] W fun e w' => e = .returned (.bool true) ∧ Below W.heap.size W w' := fun W hB => by
    have h := small_any W r sv (hL.later hB) hn hn7
    rwa [hsm] at h
  have hS := short_small hsm
  have hW : Wide r := ⟨hS, hf, hx⟩
  have FO : ∀ W, Below w.heap.size w W → Calls Tryd.prog 8 #[ruleV r sv] W (GivesQ W r) := fun W hB => (own_any W r sv (hL.later hB) hS).mono fun e w' h => givesQ h
  have AW := Lib.hid (fun W (hB : Below w.heap.size w W) => xawake_any W (hT.later hB))
  have RX := fun W => @Tm.rboxT w r sv 27 W
  have FI : ∀ W, Below w.heap.size w W → Calls Tryd.prog 9 #[.int .u8 r.freq, .int .i64 r.wkst, .int .i64 (n0 % 315537897600)] W fun e w' => e = .returned (.int .i64 (Pd.index r.freq r.wkst (n0 % 315537897600))) ∧ W = w' := fun W hB => index_any _ _ _ W (hT.later hB) hf.1
  have s2 : 0 ≤ st % 315537897600 ∧ st % 315537897600 ≤ 315537897599 := by omega
  have t2 : 0 ≤ n0 % 315537897600 ∧ n0 % 315537897600 ≤ 315537897599 := by omega
  have f0 := hf.1
  obtain ⟨i, hi⟩ : ∃ i, i = Pd.index r.freq r.wkst (n0 % 315537897600) := ⟨_, rfl⟩
  rw [← hi] at FI
  have HT := Lib.hid (fun W (hB : Below w.heap.size w W) => hT.later hB)
  have FS2 : ∀ W, Below w.heap.size w W → Calls Tryd.prog 14 #[.int .u8 r.freq, .int .i64 r.wkst, .int .i64 i] W fun e w' => e = .returned (.tuple #[.int .i64 (fr r i), .int .i64 (tt r i)]) ∧ W = w' := fun W hB => stretch_any _ _ _ W (hT.later hB) hf.1
  have FT := Lib.hid (fun a1 c1 W hT hL => by have := qCost hW (a := a1) (c := c1) (W := W) hT hL (st % 315537897600) i; rwa [costE_none (none_of hc)] at this)
  have FA := Lib.hid (fun a1 c1 W hT hL => by have := qAll hW (a := a1) (c := c1) (W := W) hT hL (st % 315537897600) i; rwa [allE_none (none_of hc)] at this)
  have FC := Lib.hid (fun a1 c1 W hL => qCheck hW (a := a1) (c := c1) (W := W) hL)
  have e1 : (chkR r != 0) = true := by simp [hc]
  replace hc := Lib.hid hc
  replace FS2 := Lib.hid FS2
  unfold ruleV ruleC at *
  replace FS := Lib.hid FS
  replace FO := Lib.hid FO
  replace FI := Lib.hid FI
  replace RX := Lib.hid RX
  clear hL hn hn7 hx hf hS hT
  generalize hss : st % 315537897600 = s at *
  generalize htt : n0 % 315537897600 = t at *
  replace hi := Lib.hid hi
  go_enter Tryd.func4, Tryd.ntmps4
  go_wp2_with (first
    | (go_at_call 6; (with_reducible refine (FS.out _ (by (repeat' (first | assumption | exact Below.refl _ _ | apply Below.next_alloc | apply Below.drew | (apply Below.next; rotate_left; assumption))))).mono ?_); rintro e w1 ⟨rfl, hB1⟩; have b1 := Lib.hid (show Below w.heap.size w w1 from Below.next_allocs' hB1); obtain ⟨k, k0, k1, k2, k3, k4, k5, k6, k7, k8, k9, k10, k11, k12, k13, k14⟩ := RX.out w1 hB1; clear hB1)
    | (go_at_call 8; (with_reducible refine (FO.out _ b1.out).mono ?_); rintro e w2 ⟨a1, c1, rfl, hL2, hB2⟩; replace hL2 := Lib.hid hL2; clear k k0 k1 k2 k3 k4 k5 k6 k7 k8 k9 k10 k11 k12 k13 k14; have b2 := Lib.hid (Below.next b1.out hB2); clear hB2)
    | (go_at_call 9; (with_reducible refine (FI.out _ (Below.next_alloc b2.out _)).mono ?_); rintro e w3 ⟨rfl, rfl⟩)
    | (go_at_call 14; (with_reducible refine (FS2.out _ (Below.next_alloc b2.out _)).mono ?_); rintro e w3 ⟨rfl, rfl⟩))
  have BX := Lib.hid (fun W => @qBox r a1 c1 w2 34 W)
  have LX := Lib.hid (fun W (hB : Below (w2.alloc (.cells #[.int .u8 r.freq, .int .i64 r.interval, .int .i64 r.count, .int .u8 r.uk, .int .i64 r.us, .slice (a1 4) r.sec.length (c1 4), .slice (a1 5) r.min.length (c1 5), .slice (a1 6) r.hour.length (c1 6), .slice (a1 7) r.day.length (c1 7), .slice (a1 8) r.mday.length (c1 8), .slice (a1 9) r.yday.length (c1 9), .slice (a1 10) r.weekno.length (c1 10), .slice (a1 11) r.month.length (c1 11), .slice (a1 12) r.setpos.length (c1 12), .int .i64 r.wkst] 34)).heap.size (w2.alloc (.cells #[.int .u8 r.freq, .int .i64 r.interval, .int .i64 r.count, .int .u8 r.uk, .int .i64 r.us, .slice (a1 4) r.sec.length (c1 4), .slice (a1 5) r.min.length (c1 5), .slice (a1 6) r.hour.length (c1 6), .slice (a1 7) r.day.length (c1 7), .slice (a1 8) r.mday.length (c1 8), .slice (a1 9) r.yday.length (c1 9), .slice (a1 10) r.weekno.length (c1 10), .slice (a1 11) r.month.length (c1 11), .slice (a1 12) r.setpos.length (c1 12), .int .i64 r.wkst] 34)) W) => hL2.out.later (Below.next_allocs' hB))
  have LB := Lib.hid (fun W (hB : Below (w2.alloc (.cells #[.int .u8 r.freq, .int .i64 r.interval, .int .i64 r.count, .int .u8 r.uk, .int .i64 r.us, .slice (a1 4) r.sec.length (c1 4), .slice (a1 5) r.min.length (c1 5), .slice (a1 6) r.hour.length (c1 6), .slice (a1 7) r.day.length (c1 7), .slice (a1 8) r.mday.length (c1 8), .slice (a1 9) r.yday.length (c1 9), .slice (a1 10) r.weekno.length (c1 10), .slice (a1 11) r.month.length (c1 11), .slice (a1 12) r.setpos.length (c1 12), .int .i64 r.wkst] 34)).heap.size (w2.alloc (.cells #[.int .u8 r.freq, .int .i64 r.interval, .int .i64 r.count, .int .u8 r.uk, .int .i64 r.us, .slice (a1 4) r.sec.length (c1 4), .slice (a1 5) r.min.length (c1 5), .slice (a1 6) r.hour.length (c1 6), .slice (a1 7) r.day.length (c1 7), .slice (a1 8) r.mday.length (c1 8), .slice (a1 9) r.yday.length (c1 9), .slice (a1 10) r.weekno.length (c1 10), .slice (a1 11) r.month.length (c1 11), .slice (a1 12) r.setpos.length (c1 12), .int .i64 r.wkst] 34)) W) => Below.next_allocs' hB)
  have b3 := Lib.hid (Below.next_alloc b2.out (.cells #[.int .u8 r.freq, .int .i64 r.interval, .int .i64 r.count, .int .u8 r.uk, .int .i64 r.us, .slice (a1 4) r.sec.length (c1 4), .slice (a1 5) r.min.length (c1 5), .slice (a1 6) r.hour.length (c1 6), .slice (a1 7) r.day.length (c1 7), .slice (a1 8) r.mday.length (c1 8), .slice (a1 9) r.yday.length (c1 9), .slice (a1 10) r.weekno.length (c1 10), .slice (a1 11) r.month.length (c1 11), .slice (a1 12) r.setpos.length (c1 12), .int .i64 r.wkst] 34))
  have z3 : w2.heap.size < (w2.alloc (.cells #[.int .u8 r.freq, .int .i64 r.interval, .int .i64 r.count, .int .u8 r.uk, .int .i64 r.us, .slice (a1 4) r.sec.length (c1 4), .slice (a1 5) r.min.length (c1 5), .slice (a1 6) r.hour.length (c1 6), .slice (a1 7) r.day.length (c1 7), .slice (a1 8) r.mday.length (c1 8), .slice (a1 9) r.yday.length (c1 9), .slice (a1 10) r.weekno.length (c1 10), .slice (a1 11) r.month.length (c1 11), .slice (a1 12) r.setpos.length (c1 12), .int .i64 r.wkst] 34)).heap.size := by simp
  obtain ⟨y0, x0, x1, x2, x3, x4, x5, x6, x7, x8, x9, x10, x11, x12, x13, x14⟩ := BX.out _ (Below.refl _ _)
  generalize w2.alloc (.cells #[.int .u8 r.freq, .int .i64 r.interval, .int .i64 r.count, .int .u8 r.uk, .int .i64 r.us, .slice (a1 4) r.sec.length (c1 4), .slice (a1 5) r.min.length (c1 5), .slice (a1 6) r.hour.length (c1 6), .slice (a1 7) r.day.length (c1 7), .slice (a1 8) r.mday.length (c1 8), .slice (a1 9) r.yday.length (c1 9), .slice (a1 10) r.weekno.length (c1 10), .slice (a1 11) r.month.length (c1 11), .slice (a1 12) r.setpos.length (c1 12), .int .i64 r.wkst] 34) = W0 at *
  have SL := Lib.hid (fun W (hB : Below W0.heap.size W0 W) => (BX.out W hB).2)
  go_region_held3 (fun w' => w'.cell? ⟨w2.heap.size, 0, none⟩ = some (.int .u8 r.freq) ∧ w'.cell? ⟨w2.heap.size, 1, none⟩ = some (.int .i64 r.interval) ∧ w'.cell? ⟨w2.heap.size, 2, none⟩ = some (.int .i64 r.count) ∧ w'.cell? ⟨w2.heap.size, 3, none⟩ = some (.int .u8 r.uk) ∧ w'.cell? ⟨w2.heap.size, 4, none⟩ = some (.int .i64 r.us) ∧ w'.cell? ⟨w2.heap.size, 5, none⟩ = some (.slice (a1 4) r.sec.length (c1 4)) ∧ w'.cell? ⟨w2.heap.size, 6, none⟩ = some (.slice (a1 5) r.min.length (c1 5)) ∧ w'.cell? ⟨w2.heap.size, 7, none⟩ = some (.slice (a1 6) r.hour.length (c1 6)) ∧ w'.cell? ⟨w2.heap.size, 8, none⟩ = some (.slice (a1 7) r.day.length (c1 7)) ∧ w'.cell? ⟨w2.heap.size, 9, none⟩ = some (.slice (a1 8) r.mday.length (c1 8)) ∧ w'.cell? ⟨w2.heap.size, 10, none⟩ = some (.slice (a1 9) r.yday.length (c1 9)) ∧ w'.cell? ⟨w2.heap.size, 11, none⟩ = some (.slice (a1 10) r.weekno.length (c1 10)) ∧ w'.cell? ⟨w2.heap.size, 12, none⟩ = some (.slice (a1 11) r.month.length (c1 11)) ∧ w'.cell? ⟨w2.heap.size, 13, none⟩ = some (.slice (a1 12) r.setpos.length (c1 12)) ∧ w'.cell? ⟨w2.heap.size, 14, none⟩ = some (.int .i64 r.wkst)) (first | go_keep | exact SL.out _ (by (repeat' (first | assumption | exact Below.refl _ _ | apply Below.next_alloc | apply Below.drew | (apply Below.next; rotate_left; assumption)))))
    (first
      | (go_at_call 15; (with_reducible refine (FT.out a1 c1 _ (HT.out _ (Below.next b3.out (by (repeat' (first | assumption | exact Below.refl _ _ | apply Below.next_alloc | apply Below.drew | (apply Below.next; rotate_left; assumption)))))) (LX.out _ (by (repeat' (first | assumption | exact Below.refl _ _ | apply Below.next_alloc | apply Below.drew | (apply Below.next; rotate_left; assumption)))))).mono ?_); rintro e y1 ⟨rfl, hC1⟩)
      | (go_at_call 10; (with_reducible refine (FA.out a1 c1 _ (HT.out _ (Below.next b3.out (by (repeat' (first | assumption | exact Below.refl _ _ | apply Below.next_alloc | apply Below.drew | (apply Below.next; rotate_left; assumption)))))) (LX.out _ (by (repeat' (first | assumption | exact Below.refl _ _ | apply Below.next_alloc | apply Below.drew | (apply Below.next; rotate_left; assumption)))))).mono ?_); rintro e y2 ⟨v2, rfl, hO2, hC2⟩))
  obtain ⟨p2, q2, rfl⟩ := OwnI.slice hO2
  have b4 := Lib.hid (show Below W0.heap.size W0 y2 by (repeat' (first | assumption | exact Below.refl _ _ | apply Below.next_alloc | apply Below.drew | (apply Below.next; rotate_left; assumption))))
  clear y0 x0 x1 x2 x3 x4 x5 x6 x7 x8 x9 x10 x11 x12 x13 x14
  obtain ⟨y0, x0, x1, x2, x3, x4, x5, x6, x7, x8, x9, x10, x11, x12, x13, x14⟩ := BX.out y2 b4.out
  go_wp2_with (first
    | (go_at_call 12; (with_reducible refine (FC.out a1 c1 _ (LX.out _ b4.out)).mono ?_); rintro e w4 ⟨rfl, hB4⟩; have b5 := Lib.hid (Below.next b4.out hB4))
    | (go_at_call 7; (with_reducible refine (AW.out _ (Below.next b3.out b5.out)).mono ?_); rintro e w5 ⟨rfl, hB5⟩))
  go_ret
  exact ⟨rfl, Below.next (Below.next b3.out b5.out) hB5⟩
end Go.Proofs.YtkbohijlhhpfbaaDoor.Xp

/- The walk of the law ExpandEach (printed by gen_laws.py). -/
namespace Go.Proofs.YtkbohijlhhpfbaaDoor.Xp
open Go.RowKit Ru Ut Cw Ra
set_option maxHeartbeats 16000000 in
set_option maxRecDepth 100000 in
theorem leach_main (w : World) (r : R) (sv : Nat → Value) (st n0 : Int) (hT : Tab w) (s0 : 0 ≤ st) (s1 : st ≤ 18446744073709551615) (u0 : 0 ≤ n0) (u1 : n0 ≤ 18446744073709551615) (hL : Lists w r sv) (hf : 0 ≤ r.freq ∧ 0 ≤ r.uk ∧ r.uk ≤ 255) (hx : ∀ q, 4 ≤ q → q ≤ 12 → q ≠ 7 → ∀ x ∈ lst r q, (Lit.int .i64 x).wf = true) (hn : ∀ q, 4 ≤ q → q ≤ 12 → q ≠ 7 → (lst r q).length ≤ 9223372036854775807) (hn7 : r.day.length ≤ 9223372036854775807) (hsm : smallR r = true) (hc : chkR r = 0) :
    Calls Tryd.prog 4 #[ruleV r sv, .int .u64 st, .int .u64 n0] w fun e w' => e = .returned (.bool true) ∧ Below w.heap.size w w' := by
  have FS : ∀ W, Below w.heap.size w W → Calls Tryd.prog 6 #[ruleV r sv] W fun e w' => e = .returned (.bool true) ∧ Below W.heap.size W w' := fun W hB => by
    have h := small_any W r sv (hL.later hB) hn hn7
    rwa [hsm] at h
  have hS := short_small hsm
  have hW : Wide r := ⟨hS, hf, hx⟩
  have FO : ∀ W, Below w.heap.size w W → Calls Tryd.prog 8 #[ruleV r sv] W (GivesQ W r) := fun W hB => (own_any W r sv (hL.later hB) hS).mono fun e w' h => givesQ h
  have AW := Lib.hid (fun W (hB : Below w.heap.size w W) => xawake_any W (hT.later hB))
  have RX := fun W => @Tm.rboxT w r sv 27 W
  have FI : ∀ W, Below w.heap.size w W → Calls Tryd.prog 9 #[.int .u8 r.freq, .int .i64 r.wkst, .int .i64 (n0 % 315537897600)] W fun e w' => e = .returned (.int .i64 (Pd.index r.freq r.wkst (n0 % 315537897600))) ∧ W = w' := fun W hB => index_any _ _ _ W (hT.later hB) hf.1
  have s2 : 0 ≤ st % 315537897600 ∧ st % 315537897600 ≤ 315537897599 := by omega
  have t2 : 0 ≤ n0 % 315537897600 ∧ n0 % 315537897600 ≤ 315537897599 := by omega
  have f0 := hf.1
  obtain ⟨i, hi⟩ : ∃ i, i = Pd.index r.freq r.wkst (n0 % 315537897600) := ⟨_, rfl⟩
  rw [← hi] at FI
  have HT := Lib.hid (fun W (hB : Below w.heap.size w W) => hT.later hB)
  have FS2 : ∀ W, Below w.heap.size w W → Calls Tryd.prog 14 #[.int .u8 r.freq, .int .i64 r.wkst, .int .i64 i] W fun e w' => e = .returned (.tuple #[.int .i64 (fr r i), .int .i64 (tt r i)]) ∧ W = w' := fun W hB => stretch_any _ _ _ W (hT.later hB) hf.1
  have FT := Lib.hid (fun a1 c1 W hT hL => qCost hW (a := a1) (c := c1) (W := W) hT hL (st % 315537897600) i)
  have FA := Lib.hid (fun a1 c1 W hT hL => qAll hW (a := a1) (c := c1) (W := W) hT hL (st % 315537897600) i)
  have FC := Lib.hid (fun a1 c1 W hL => by have := qCheck hW (a := a1) (c := c1) (W := W) hL; rwa [hc] at this)
  have FD := Lib.hid (fun d a1 c1 W hT hL => qDay hW (a := a1) (c := c1) (W := W) hT hL (st % 315537897600) d (by omega))
  have FM := Lib.hid (fun u a1 c1 W hL => qTime hW (a := a1) (c := c1) (W := W) hL (st % 315537897600) u)
  obtain ⟨l1, l2, l3, l4⟩ := each_law f0 s2.1 s2.2 t2.1 t2.2 hc hi
  have hr := allE_rise r (st % 315537897600) i
  have hS := at_sec f0 hc t2.1 t2.2 hi
  have hpc : costE r (st % 315537897600) i ≤ 31622401 := by
    unfold costE
    split
    · have := prod_le r (st % 315537897600) i
      rw [← Int.natCast_mul]; omega
    · omega
  obtain ⟨g0, g1, g2, g3⟩ : 0 ≤ fr r i ∧ fr r i < tt r i ∧ tt r i ≤ 315537897600 ∧ True := ⟨hS.1.1, hS.1.2.1, hS.1.2.2.1, trivial⟩
  have hl := allE_len r (st % 315537897600) i
  replace l4 := Lib.hid l4
  replace hr := Lib.hid hr
  clear hS hc
  replace FS2 := Lib.hid FS2
  unfold ruleV ruleC at *
  replace FS := Lib.hid FS
  replace FO := Lib.hid FO
  replace FI := Lib.hid FI
  replace RX := Lib.hid RX
  clear hL hn hn7 hx hf hT
  generalize hss : st % 315537897600 = s at *
  generalize htt : n0 % 315537897600 = t at *
  replace hi := Lib.hid hi
  generalize costE r s i = C at *
  generalize hLL : allE r s i = l at *
  replace hLL := Lib.hid hLL
  generalize fr r i = F at *
  generalize tt r i = T at *
  go_enter Tryd.func4, Tryd.ntmps4
  go_wp2_with (first
    | (go_at_call 6; (with_reducible refine (FS.out _ (by (repeat' (first | assumption | exact Below.refl _ _ | apply Below.next_alloc | apply Below.drew | (apply Below.next; rotate_left; assumption))))).mono ?_); rintro e w1 ⟨rfl, hB1⟩; have b1 := Lib.hid (show Below w.heap.size w w1 from Below.next_allocs' hB1); obtain ⟨k, k0, k1, k2, k3, k4, k5, k6, k7, k8, k9, k10, k11, k12, k13, k14⟩ := RX.out w1 hB1; clear hB1)
    | (go_at_call 8; (with_reducible refine (FO.out _ b1.out).mono ?_); rintro e w2 ⟨a1, c1, rfl, hL2, hB2⟩; replace hL2 := Lib.hid hL2; clear k k0 k1 k2 k3 k4 k5 k6 k7 k8 k9 k10 k11 k12 k13 k14; have b2 := Lib.hid (Below.next b1.out hB2); clear hB2)
    | (go_at_call 9; (with_reducible refine (FI.out _ (Below.next_alloc b2.out _)).mono ?_); rintro e w3 ⟨rfl, rfl⟩)
    | (go_at_call 14; (with_reducible refine (FS2.out _ (Below.next_alloc b2.out _)).mono ?_); rintro e w3 ⟨rfl, rfl⟩))
  have BX := Lib.hid (fun W => @qBox r a1 c1 w2 34 W)
  have LX := Lib.hid (fun W (hB : Below (w2.alloc (.cells #[.int .u8 r.freq, .int .i64 r.interval, .int .i64 r.count, .int .u8 r.uk, .int .i64 r.us, .slice (a1 4) r.sec.length (c1 4), .slice (a1 5) r.min.length (c1 5), .slice (a1 6) r.hour.length (c1 6), .slice (a1 7) r.day.length (c1 7), .slice (a1 8) r.mday.length (c1 8), .slice (a1 9) r.yday.length (c1 9), .slice (a1 10) r.weekno.length (c1 10), .slice (a1 11) r.month.length (c1 11), .slice (a1 12) r.setpos.length (c1 12), .int .i64 r.wkst] 34)).heap.size (w2.alloc (.cells #[.int .u8 r.freq, .int .i64 r.interval, .int .i64 r.count, .int .u8 r.uk, .int .i64 r.us, .slice (a1 4) r.sec.length (c1 4), .slice (a1 5) r.min.length (c1 5), .slice (a1 6) r.hour.length (c1 6), .slice (a1 7) r.day.length (c1 7), .slice (a1 8) r.mday.length (c1 8), .slice (a1 9) r.yday.length (c1 9), .slice (a1 10) r.weekno.length (c1 10), .slice (a1 11) r.month.length (c1 11), .slice (a1 12) r.setpos.length (c1 12), .int .i64 r.wkst] 34)) W) => hL2.out.later (Below.next_allocs' hB))
  have LB := Lib.hid (fun W (hB : Below (w2.alloc (.cells #[.int .u8 r.freq, .int .i64 r.interval, .int .i64 r.count, .int .u8 r.uk, .int .i64 r.us, .slice (a1 4) r.sec.length (c1 4), .slice (a1 5) r.min.length (c1 5), .slice (a1 6) r.hour.length (c1 6), .slice (a1 7) r.day.length (c1 7), .slice (a1 8) r.mday.length (c1 8), .slice (a1 9) r.yday.length (c1 9), .slice (a1 10) r.weekno.length (c1 10), .slice (a1 11) r.month.length (c1 11), .slice (a1 12) r.setpos.length (c1 12), .int .i64 r.wkst] 34)).heap.size (w2.alloc (.cells #[.int .u8 r.freq, .int .i64 r.interval, .int .i64 r.count, .int .u8 r.uk, .int .i64 r.us, .slice (a1 4) r.sec.length (c1 4), .slice (a1 5) r.min.length (c1 5), .slice (a1 6) r.hour.length (c1 6), .slice (a1 7) r.day.length (c1 7), .slice (a1 8) r.mday.length (c1 8), .slice (a1 9) r.yday.length (c1 9), .slice (a1 10) r.weekno.length (c1 10), .slice (a1 11) r.month.length (c1 11), .slice (a1 12) r.setpos.length (c1 12), .int .i64 r.wkst] 34)) W) => Below.next_allocs' hB)
  have b3 := Lib.hid (Below.next_alloc b2.out (.cells #[.int .u8 r.freq, .int .i64 r.interval, .int .i64 r.count, .int .u8 r.uk, .int .i64 r.us, .slice (a1 4) r.sec.length (c1 4), .slice (a1 5) r.min.length (c1 5), .slice (a1 6) r.hour.length (c1 6), .slice (a1 7) r.day.length (c1 7), .slice (a1 8) r.mday.length (c1 8), .slice (a1 9) r.yday.length (c1 9), .slice (a1 10) r.weekno.length (c1 10), .slice (a1 11) r.month.length (c1 11), .slice (a1 12) r.setpos.length (c1 12), .int .i64 r.wkst] 34))
  have z3 : w2.heap.size < (w2.alloc (.cells #[.int .u8 r.freq, .int .i64 r.interval, .int .i64 r.count, .int .u8 r.uk, .int .i64 r.us, .slice (a1 4) r.sec.length (c1 4), .slice (a1 5) r.min.length (c1 5), .slice (a1 6) r.hour.length (c1 6), .slice (a1 7) r.day.length (c1 7), .slice (a1 8) r.mday.length (c1 8), .slice (a1 9) r.yday.length (c1 9), .slice (a1 10) r.weekno.length (c1 10), .slice (a1 11) r.month.length (c1 11), .slice (a1 12) r.setpos.length (c1 12), .int .i64 r.wkst] 34)).heap.size := by simp
  obtain ⟨y0, x0, x1, x2, x3, x4, x5, x6, x7, x8, x9, x10, x11, x12, x13, x14⟩ := BX.out _ (Below.refl _ _)
  generalize w2.alloc (.cells #[.int .u8 r.freq, .int .i64 r.interval, .int .i64 r.count, .int .u8 r.uk, .int .i64 r.us, .slice (a1 4) r.sec.length (c1 4), .slice (a1 5) r.min.length (c1 5), .slice (a1 6) r.hour.length (c1 6), .slice (a1 7) r.day.length (c1 7), .slice (a1 8) r.mday.length (c1 8), .slice (a1 9) r.yday.length (c1 9), .slice (a1 10) r.weekno.length (c1 10), .slice (a1 11) r.month.length (c1 11), .slice (a1 12) r.setpos.length (c1 12), .int .i64 r.wkst] 34) = W0 at *
  have SL := Lib.hid (fun W (hB : Below W0.heap.size W0 W) => (BX.out W hB).2)
  go_region_held3 (fun w' => w'.cell? ⟨w2.heap.size, 0, none⟩ = some (.int .u8 r.freq) ∧ w'.cell? ⟨w2.heap.size, 1, none⟩ = some (.int .i64 r.interval) ∧ w'.cell? ⟨w2.heap.size, 2, none⟩ = some (.int .i64 r.count) ∧ w'.cell? ⟨w2.heap.size, 3, none⟩ = some (.int .u8 r.uk) ∧ w'.cell? ⟨w2.heap.size, 4, none⟩ = some (.int .i64 r.us) ∧ w'.cell? ⟨w2.heap.size, 5, none⟩ = some (.slice (a1 4) r.sec.length (c1 4)) ∧ w'.cell? ⟨w2.heap.size, 6, none⟩ = some (.slice (a1 5) r.min.length (c1 5)) ∧ w'.cell? ⟨w2.heap.size, 7, none⟩ = some (.slice (a1 6) r.hour.length (c1 6)) ∧ w'.cell? ⟨w2.heap.size, 8, none⟩ = some (.slice (a1 7) r.day.length (c1 7)) ∧ w'.cell? ⟨w2.heap.size, 9, none⟩ = some (.slice (a1 8) r.mday.length (c1 8)) ∧ w'.cell? ⟨w2.heap.size, 10, none⟩ = some (.slice (a1 9) r.yday.length (c1 9)) ∧ w'.cell? ⟨w2.heap.size, 11, none⟩ = some (.slice (a1 10) r.weekno.length (c1 10)) ∧ w'.cell? ⟨w2.heap.size, 12, none⟩ = some (.slice (a1 11) r.month.length (c1 11)) ∧ w'.cell? ⟨w2.heap.size, 13, none⟩ = some (.slice (a1 12) r.setpos.length (c1 12)) ∧ w'.cell? ⟨w2.heap.size, 14, none⟩ = some (.int .i64 r.wkst)) (first | go_keep | exact SL.out _ (by (repeat' (first | assumption | exact Below.refl _ _ | apply Below.next_alloc | apply Below.drew | (apply Below.next; rotate_left; assumption)))))
    (first
      | (go_at_call 15; (with_reducible refine (FT.out a1 c1 _ (HT.out _ (Below.next b3.out (by (repeat' (first | assumption | exact Below.refl _ _ | apply Below.next_alloc | apply Below.drew | (apply Below.next; rotate_left; assumption)))))) (LX.out _ (by (repeat' (first | assumption | exact Below.refl _ _ | apply Below.next_alloc | apply Below.drew | (apply Below.next; rotate_left; assumption)))))).mono ?_); rintro e y1 ⟨rfl, hC1⟩)
      | (go_at_call 10; (with_reducible refine (FA.out a1 c1 _ (HT.out _ (Below.next b3.out (by (repeat' (first | assumption | exact Below.refl _ _ | apply Below.next_alloc | apply Below.drew | (apply Below.next; rotate_left; assumption)))))) (LX.out _ (by (repeat' (first | assumption | exact Below.refl _ _ | apply Below.next_alloc | apply Below.drew | (apply Below.next; rotate_left; assumption)))))).mono ?_); rintro e y2 ⟨v2, rfl, hO2, hC2⟩))
  obtain ⟨p2, q2, rfl⟩ := OwnI.slice hO2
  have b4 := Lib.hid (show Below W0.heap.size W0 y2 by (repeat' (first | assumption | exact Below.refl _ _ | apply Below.next_alloc | apply Below.drew | (apply Below.next; rotate_left; assumption))))
  clear y0 x0 x1 x2 x3 x4 x5 x6 x7 x8 x9 x10 x11 x12 x13 x14
  obtain ⟨y0, x0, x1, x2, x3, x4, x5, x6, x7, x8, x9, x10, x11, x12, x13, x14⟩ := BX.out y2 b4.out
  replace hO2 := Lib.hid hO2
  have hc1 : (C : Int) ≤ 4000 ∨ 4000 < C := by omega
  rcases hc1 with hc1 | hc1
  · as_aux_lemma =>
    have e3 : ((l.length : Int) != C - 1) = false := by rw [bne_eq_false_iff_eq]; exact l2 hc1
    clear l2 l3
    go_wp2_with (first
      | (go_at_call 12; (with_reducible refine (FC.out a1 c1 _ (LX.out _ b4.out)).mono ?_); rintro e w4 ⟨rfl, hB4⟩; have b5 := Lib.hid (Below.next b4.out hB4); clear y0 x0 x1 x2 x3 x4 x5 x6 x7 x8 x9 x10 x11 x12 x13 x14))
    have b6 := Lib.hid (Below.next b3.out b5.out)
    go_loopw [15, 16] (fun pv kv wr => ∃ (k : Nat) (z : Int), k ≤ l.length ∧ kv = .int .i64 k ∧ pv = .int .i64 z ∧ -1 ≤ z ∧ z ≤ 315537897600 ∧ Hid (∀ h : k < l.length, z < l[k]) ∧ Hid (Below w4.heap.size w4 wr)) (fun _ kv _ => l.length - (intOf kv).toNat)
    case atStart => exact ⟨0, F - 1, by omega, rfl, rfl, by omega, by omega, Lib.hid (fun h => by have := (l4.out l[0] (List.getElem_mem h)).1; omega), Lib.hid (Below.refl _ _)⟩
    case round =>
      obtain ⟨k, z, hk, rfl, rfl, z0, z1, hz, hB⟩ := hrel
      by_cases hlt : k < l.length
      · have hzk := hz.out hlt
        have nxt : Hid (∀ h : k + 1 < l.length, l[k] < l[k + 1]) := Lib.hid (fun h => List.pairwise_iff_getElem.1 hr.out k (k + 1) hlt h (by omega))
        obtain ⟨m0, m1, m2, m3⟩ := l4.out l[k] (List.getElem_mem hlt)
        obtain ⟨bl, rfl, hbl, hcl, hcap⟩ := own_at hO2.out (Below.next hB4 hB.out) hlt
        generalize l[k] = x at *
        have FD2 := Lib.hid (fun a1 c1 W hT hL => by have := FD.out (x / 86400) a1 c1 W hT hL; rwa [m2] at this)
        have FM2 := Lib.hid (fun a1 c1 W hL => by have := FM.out (x % 86400) a1 c1 W hL; rwa [m3] at this)
        have hq := show IntKind.i64.wrap (x.tdiv 86400) = x / 86400 from Go.IntWalk.i64_quo _ _ (by omega)
        have hm := show x.tmod 86400 = x % 86400 from Int.tmod_eq_emod_of_nonneg (by omega)
        clear m2 m3 hz
        have bW := Lib.hid (Below.next b5.out hB.out)
        have SR := Lib.hid (fun W (hBW : Below wr.heap.size wr W) => (show W.cell? ⟨w2.heap.size, 0, none⟩ = some (.int .u8 r.freq) ∧ W.cell? ⟨w2.heap.size, 1, none⟩ = some (.int .i64 r.interval) ∧ W.cell? ⟨w2.heap.size, 2, none⟩ = some (.int .i64 r.count) ∧ W.cell? ⟨w2.heap.size, 3, none⟩ = some (.int .u8 r.uk) ∧ W.cell? ⟨w2.heap.size, 4, none⟩ = some (.int .i64 r.us) ∧ W.cell? ⟨w2.heap.size, 5, none⟩ = some (.slice (a1 4) r.sec.length (c1 4)) ∧ W.cell? ⟨w2.heap.size, 6, none⟩ = some (.slice (a1 5) r.min.length (c1 5)) ∧ W.cell? ⟨w2.heap.size, 7, none⟩ = some (.slice (a1 6) r.hour.length (c1 6)) ∧ W.cell? ⟨w2.heap.size, 8, none⟩ = some (.slice (a1 7) r.day.length (c1 7)) ∧ W.cell? ⟨w2.heap.size, 9, none⟩ = some (.slice (a1 8) r.mday.length (c1 8)) ∧ W.cell? ⟨w2.heap.size, 10, none⟩ = some (.slice (a1 9) r.yday.length (c1 9)) ∧ W.cell? ⟨w2.heap.size, 11, none⟩ = some (.slice (a1 10) r.weekno.length (c1 10)) ∧ W.cell? ⟨w2.heap.size, 12, none⟩ = some (.slice (a1 11) r.month.length (c1 11)) ∧ W.cell? ⟨w2.heap.size, 13, none⟩ = some (.slice (a1 12) r.setpos.length (c1 12)) ∧ W.cell? ⟨w2.heap.size, 14, none⟩ = some (.int .i64 r.wkst) ∧ W.cell? ⟨bl, k, none⟩ = some (.int .i64 x) by
          obtain ⟨-, x0, x1, x2, x3, x4, x5, x6, x7, x8, x9, x10, x11, x12, x13, x14⟩ := BX.out W (Below.next bW.out hBW)
          exact ⟨x0, x1, x2, x3, x4, x5, x6, x7, x8, x9, x10, x11, x12, x13, x14, (hBW.cell (p := ⟨bl, k, none⟩) hbl).trans hcl⟩))
        obtain ⟨x0, x1, x2, x3, x4, x5, x6, x7, x8, x9, x10, x11, x12, x13, x14, x15⟩ := SR.out wr (Below.refl _ _)
        have y0 : w2.heap.size < wr.heap.size := (BX.out wr bW.out).1
        clear hcl
        have i1 : (0 : Int) ≤ (k : Int) := by omega
        have i2 : (k : Int) < (l.length : Int) := by omega
        have gx : decide (x ≤ z) = false := decide_eq_false (by omega)
        have gt : decide (T ≤ x) = false := decide_eq_false (by omega)
        by_cases h50 : k < 50
        · as_aux_lemma =>
          have gk : decide ((k : Int) < 50) = true := decide_eq_true (by omega)
          go_wp2
          go_region_held3 (fun w' => w'.cell? ⟨w2.heap.size, 0, none⟩ = some (.int .u8 r.freq) ∧ w'.cell? ⟨w2.heap.size, 1, none⟩ = some (.int .i64 r.interval) ∧ w'.cell? ⟨w2.heap.size, 2, none⟩ = some (.int .i64 r.count) ∧ w'.cell? ⟨w2.heap.size, 3, none⟩ = some (.int .u8 r.uk) ∧ w'.cell? ⟨w2.heap.size, 4, none⟩ = some (.int .i64 r.us) ∧ w'.cell? ⟨w2.heap.size, 5, none⟩ = some (.slice (a1 4) r.sec.length (c1 4)) ∧ w'.cell? ⟨w2.heap.size, 6, none⟩ = some (.slice (a1 5) r.min.length (c1 5)) ∧ w'.cell? ⟨w2.heap.size, 7, none⟩ = some (.slice (a1 6) r.hour.length (c1 6)) ∧ w'.cell? ⟨w2.heap.size, 8, none⟩ = some (.slice (a1 7) r.day.length (c1 7)) ∧ w'.cell? ⟨w2.heap.size, 9, none⟩ = some (.slice (a1 8) r.mday.length (c1 8)) ∧ w'.cell? ⟨w2.heap.size, 10, none⟩ = some (.slice (a1 9) r.yday.length (c1 9)) ∧ w'.cell? ⟨w2.heap.size, 11, none⟩ = some (.slice (a1 10) r.weekno.length (c1 10)) ∧ w'.cell? ⟨w2.heap.size, 12, none⟩ = some (.slice (a1 11) r.month.length (c1 11)) ∧ w'.cell? ⟨w2.heap.size, 13, none⟩ = some (.slice (a1 12) r.setpos.length (c1 12)) ∧ w'.cell? ⟨w2.heap.size, 14, none⟩ = some (.int .i64 r.wkst) ∧ w'.cell? ⟨bl, k, none⟩ = some (.int .i64 x)) (first | go_keep | exact SR.out _ (by (repeat' (first | assumption | exact Below.refl _ _ | apply Below.next_alloc | apply Below.drew | (apply Below.next; rotate_left; assumption)))))
            (first
              | (go_at_call 16; (with_reducible refine (FD2.out a1 c1 _ (HT.out _ (Below.next (Below.next b6.out hB.out) (by (repeat' (first | assumption | exact Below.refl _ _ | apply Below.next_alloc | apply Below.drew | (apply Below.next; rotate_left; assumption)))))) (LX.out _ (Below.next bW.out (by (repeat' (first | assumption | exact Below.refl _ _ | apply Below.next_alloc | apply Below.drew | (apply Below.next; rotate_left; assumption))))))).mono ?_); rintro e y3 ⟨rfl, hC3⟩)
              | (go_at_call 17; (with_reducible refine (FM2.out a1 c1 _ (LX.out _ (Below.next bW.out (by (repeat' (first | assumption | exact Below.refl _ _ | apply Below.next_alloc | apply Below.drew | (apply Below.next; rotate_left; assumption))))))).mono ?_); rintro e y4 ⟨rfl, hC4⟩))
          have bR := Lib.hid (show Below wr.heap.size wr y4 by (repeat' (first | assumption | exact Below.refl _ _ | apply Below.next_alloc | apply Below.drew | (apply Below.next; rotate_left; assumption))))
          obtain ⟨r0, r1, r2, r3, r4, r5, r6, r7, r8, r9, r10, r11, r12, r13, r14, r15⟩ := SR.out y4 bR.out
          go_wp2
          go_roundw
          case rel => exact ⟨k + 1, x, by omega, by go_num, rfl, by omega, by omega, nxt, Lib.hid (Below.next hB.out (by (repeat' (first | assumption | exact Below.refl _ _ | apply Below.next_alloc | apply Below.drew | (apply Below.next; rotate_left; assumption)))))⟩
          case measure => simp [intOf]; omega
        · as_aux_lemma =>
          go_wp2
          have gk : decide ((k : Int) < 50) = false := decide_eq_false (by omega)
          refine wp_region_held_drew (S := (fun w' => w'.cell? ⟨w2.heap.size, 0, none⟩ = some (.int .u8 r.freq) ∧ w'.cell? ⟨w2.heap.size, 1, none⟩ = some (.int .i64 r.interval) ∧ w'.cell? ⟨w2.heap.size, 2, none⟩ = some (.int .i64 r.count) ∧ w'.cell? ⟨w2.heap.size, 3, none⟩ = some (.int .u8 r.uk) ∧ w'.cell? ⟨w2.heap.size, 4, none⟩ = some (.int .i64 r.us) ∧ w'.cell? ⟨w2.heap.size, 5, none⟩ = some (.slice (a1 4) r.sec.length (c1 4)) ∧ w'.cell? ⟨w2.heap.size, 6, none⟩ = some (.slice (a1 5) r.min.length (c1 5)) ∧ w'.cell? ⟨w2.heap.size, 7, none⟩ = some (.slice (a1 6) r.hour.length (c1 6)) ∧ w'.cell? ⟨w2.heap.size, 8, none⟩ = some (.slice (a1 7) r.day.length (c1 7)) ∧ w'.cell? ⟨w2.heap.size, 9, none⟩ = some (.slice (a1 8) r.mday.length (c1 8)) ∧ w'.cell? ⟨w2.heap.size, 10, none⟩ = some (.slice (a1 9) r.yday.length (c1 9)) ∧ w'.cell? ⟨w2.heap.size, 11, none⟩ = some (.slice (a1 10) r.weekno.length (c1 10)) ∧ w'.cell? ⟨w2.heap.size, 12, none⟩ = some (.slice (a1 11) r.month.length (c1 11)) ∧ w'.cell? ⟨w2.heap.size, 13, none⟩ = some (.slice (a1 12) r.setpos.length (c1 12)) ∧ w'.cell? ⟨w2.heap.size, 14, none⟩ = some (.int .i64 r.wkst) ∧ w'.cell? ⟨bl, k, none⟩ = some (.int .i64 x))) (by kernel_rfl) ?_ (fun hHeld => ?_)
          · exact SR.out _ (by (repeat' (first | assumption | exact Below.refl _ _ | apply Below.next_alloc | apply Below.drew | (apply Below.next; rotate_left; assumption))))
          refine wpAnyH_take (i := 0) (v := ?_) rfl (by kernel_rfl) (by kernel_rfl) (by kernel_rfl) (fun _ _ _ h => h) (Or.inl ⟨by rfl, ?_⟩) hHeld ?_
          rotate_left
          · intro w hSw
            simp only [List.getElem_toArray, List.getElem_cons_zero]
            (try dsimp only at hSw)
            go_simp
            (try with_reducible rfl)
          simp only [Act.put, List.getElem_toArray, List.getElem_cons_zero, List.setIfInBounds_toArray, List.set_cons_zero, List.set_cons_succ]
          refine wpAnyH_take (i := 1) (v := ?_) rfl (by kernel_rfl) (by kernel_rfl) (by kernel_rfl) (fun _ _ _ h => h) (Or.inl ⟨by rfl, ?_⟩) hHeld ?_
          rotate_left
          · intro w hSw
            simp only [List.getElem_toArray, List.getElem_cons_zero, List.getElem_cons_succ]
            (try dsimp only at hSw)
            go_simp
            (try with_reducible rfl)
          simp only [Act.put, List.getElem_toArray, List.getElem_cons_zero, List.getElem_cons_succ, List.setIfInBounds_toArray, List.set_cons_zero, List.set_cons_succ]
          refine wpAnyH_take (i := 2) (v := ?_) rfl (by kernel_rfl) (by kernel_rfl) (by kernel_rfl) (fun _ _ _ h => h) (Or.inl ⟨by rfl, ?_⟩) hHeld ?_
          rotate_left
          · intro w hSw
            simp only [List.getElem_toArray, List.getElem_cons_zero, List.getElem_cons_succ]
            (try dsimp only at hSw)
            go_simp
            (try with_reducible rfl)
          simp only [Act.put, List.getElem_toArray, List.getElem_cons_zero, List.getElem_cons_succ, List.setIfInBounds_toArray, List.set_cons_zero, List.set_cons_succ]
          refine wpAnyH_take (i := 3) (v := ?_) rfl (by kernel_rfl) (by kernel_rfl) (by kernel_rfl) (fun _ _ _ h => h) (Or.inl ⟨by rfl, ?_⟩) hHeld ?_
          rotate_left
          · intro w hSw
            simp only [List.getElem_toArray, List.getElem_cons_zero, List.getElem_cons_succ]
            (try dsimp only at hSw)
            go_simp
            (try with_reducible rfl)
          simp only [Act.put, List.getElem_toArray, List.getElem_cons_zero, List.getElem_cons_succ, List.setIfInBounds_toArray, List.set_cons_zero, List.set_cons_succ]
          refine wpAnyH_take (i := 4) (v := ?_) rfl (by kernel_rfl) (by kernel_rfl) (by kernel_rfl) (fun _ _ _ h => h) (Or.inl ⟨by rfl, ?_⟩) hHeld ?_
          rotate_left
          · intro w hSw
            simp only [List.getElem_toArray, List.getElem_cons_zero, List.getElem_cons_succ]
            (try dsimp only at hSw)
            go_simp
            (try with_reducible rfl)
          simp only [Act.put, List.getElem_toArray, List.getElem_cons_zero, List.getElem_cons_succ, List.setIfInBounds_toArray, List.set_cons_zero, List.set_cons_succ]
          refine wpAnyH_take (i := 5) (v := ?_) rfl (by kernel_rfl) (by kernel_rfl) (by kernel_rfl) (fun _ _ _ h => h) (Or.inl ⟨by rfl, ?_⟩) hHeld ?_
          rotate_left
          · intro w hSw
            simp only [List.getElem_toArray, List.getElem_cons_zero, List.getElem_cons_succ]
            (try dsimp only at hSw)
            go_simp
            (try with_reducible rfl)
          simp only [Act.put, List.getElem_toArray, List.getElem_cons_zero, List.getElem_cons_succ, List.setIfInBounds_toArray, List.set_cons_zero, List.set_cons_succ]
          refine wpAnyH_take (i := 6) (v := ?_) rfl (by kernel_rfl) (by kernel_rfl) (by kernel_rfl) (fun _ _ _ h => h) (Or.inl ⟨by rfl, ?_⟩) hHeld ?_
          rotate_left
          · intro w hSw
            simp only [List.getElem_toArray, List.getElem_cons_zero, List.getElem_cons_succ]
            (try dsimp only at hSw)
            go_simp
            (try with_reducible rfl)
          simp only [Act.put, List.getElem_toArray, List.getElem_cons_zero, List.getElem_cons_succ, List.setIfInBounds_toArray, List.set_cons_zero, List.set_cons_succ]
          refine wpAnyH_take (i := 7) (v := ?_) rfl (by kernel_rfl) (by kernel_rfl) (by kernel_rfl) (fun _ _ _ h => h) (Or.inl ⟨by rfl, ?_⟩) hHeld ?_
          rotate_left
          · intro w hSw
            simp only [List.getElem_toArray, List.getElem_cons_zero, List.getElem_cons_succ]
            (try dsimp only at hSw)
            go_simp
            (try with_reducible rfl)
          simp only [Act.put, List.getElem_toArray, List.getElem_cons_zero, List.getElem_cons_succ, List.setIfInBounds_toArray, List.set_cons_zero, List.set_cons_succ]
          refine wpAnyH_take (i := 8) (v := ?_) rfl (by kernel_rfl) (by kernel_rfl) (by kernel_rfl) (fun _ _ _ h => h) (Or.inl ⟨by rfl, ?_⟩) hHeld ?_
          rotate_left
          · intro w hSw
            simp only [List.getElem_toArray, List.getElem_cons_zero, List.getElem_cons_succ]
            (try dsimp only at hSw)
            go_simp
            (try with_reducible rfl)
          simp only [Act.put, List.getElem_toArray, List.getElem_cons_zero, List.getElem_cons_succ, List.setIfInBounds_toArray, List.set_cons_zero, List.set_cons_succ]
          refine wpAnyH_take (i := 9) (v := ?_) rfl (by kernel_rfl) (by kernel_rfl) (by kernel_rfl) (fun _ _ _ h => h) (Or.inl ⟨by rfl, ?_⟩) hHeld ?_
          rotate_left
          · intro w hSw
            simp only [List.getElem_toArray, List.getElem_cons_zero, List.getElem_cons_succ]
            (try dsimp only at hSw)
            go_simp
            (try with_reducible rfl)
          simp only [Act.put, List.getElem_toArray, List.getElem_cons_zero, List.getElem_cons_succ, List.setIfInBounds_toArray, List.set_cons_zero, List.set_cons_succ]
          refine wpAnyH_take (i := 10) (v := ?_) rfl (by kernel_rfl) (by kernel_rfl) (by kernel_rfl) (fun _ _ _ h => h) (Or.inl ⟨by rfl, ?_⟩) hHeld ?_
          rotate_left
          · intro w hSw
            simp only [List.getElem_toArray, List.getElem_cons_zero, List.getElem_cons_succ]
            (try dsimp only at hSw)
            go_simp
            (try with_reducible rfl)
          simp only [Act.put, List.getElem_toArray, List.getElem_cons_zero, List.getElem_cons_succ, List.setIfInBounds_toArray, List.set_cons_zero, List.set_cons_succ]
          refine wpAnyH_take (i := 11) (v := ?_) rfl (by kernel_rfl) (by kernel_rfl) (by kernel_rfl) (fun _ _ _ h => h) (Or.inl ⟨by rfl, ?_⟩) hHeld ?_
          rotate_left
          · intro w hSw
            simp only [List.getElem_toArray, List.getElem_cons_zero, List.getElem_cons_succ]
            (try dsimp only at hSw)
            go_simp
            (try with_reducible rfl)
          simp only [Act.put, List.getElem_toArray, List.getElem_cons_zero, List.getElem_cons_succ, List.setIfInBounds_toArray, List.set_cons_zero, List.set_cons_succ]
          refine wpAnyH_take (i := 12) (v := ?_) rfl (by kernel_rfl) (by kernel_rfl) (by kernel_rfl) (fun _ _ _ h => h) (Or.inl ⟨by rfl, ?_⟩) hHeld ?_
          rotate_left
          · intro w hSw
            simp only [List.getElem_toArray, List.getElem_cons_zero, List.getElem_cons_succ]
            (try dsimp only at hSw)
            go_simp
            (try with_reducible rfl)
          simp only [Act.put, List.getElem_toArray, List.getElem_cons_zero, List.getElem_cons_succ, List.setIfInBounds_toArray, List.set_cons_zero, List.set_cons_succ]
          refine wpAnyH_take (i := 13) (v := ?_) rfl (by kernel_rfl) (by kernel_rfl) (by kernel_rfl) (fun _ _ _ h => h) (Or.inl ⟨by rfl, ?_⟩) hHeld ?_
          rotate_left
          · intro w hSw
            simp only [List.getElem_toArray, List.getElem_cons_zero, List.getElem_cons_succ]
            (try dsimp only at hSw)
            go_simp
            (try with_reducible rfl)
          simp only [Act.put, List.getElem_toArray, List.getElem_cons_zero, List.getElem_cons_succ, List.setIfInBounds_toArray, List.set_cons_zero, List.set_cons_succ]
          refine wpAnyH_take (i := 14) (v := ?_) rfl (by kernel_rfl) (by kernel_rfl) (by kernel_rfl) (fun _ _ _ h => h) (Or.inl ⟨by rfl, ?_⟩) hHeld ?_
          rotate_left
          · intro w hSw
            simp only [List.getElem_toArray, List.getElem_cons_zero, List.getElem_cons_succ]
            (try dsimp only at hSw)
            go_simp
            (try with_reducible rfl)
          simp only [Act.put, List.getElem_toArray, List.getElem_cons_zero, List.getElem_cons_succ, List.setIfInBounds_toArray, List.set_cons_zero, List.set_cons_succ]
          refine wpAnyH_take (i := 15) (v := ?_) rfl (by kernel_rfl) (by kernel_rfl) (by kernel_rfl) (fun _ _ _ h => h) (Or.inl ⟨by rfl, ?_⟩) hHeld ?_
          rotate_left
          · intro w hSw
            simp only [List.getElem_toArray, List.getElem_cons_zero, List.getElem_cons_succ]
            (try dsimp only at hSw)
            go_simp
            (try with_reducible rfl)
          simp only [Act.put, List.getElem_toArray, List.getElem_cons_zero, List.getElem_cons_succ, List.setIfInBounds_toArray, List.set_cons_zero, List.set_cons_succ]
          refine wpAnyH_take (i := 16) (v := ?_) rfl (by kernel_rfl) (by kernel_rfl) (by kernel_rfl) (fun _ _ _ h => h) (Or.inl ⟨by rfl, ?_⟩) hHeld ?_
          rotate_left
          · intro w hSw
            simp only [List.getElem_toArray, List.getElem_cons_zero, List.getElem_cons_succ]
            (try dsimp only at hSw)
            go_simp
            (try with_reducible rfl)
          simp only [Act.put, List.getElem_toArray, List.getElem_cons_zero, List.getElem_cons_succ, List.setIfInBounds_toArray, List.set_cons_zero, List.set_cons_succ]
          refine wpAnyH_take (i := 17) (v := ?_) rfl (by kernel_rfl) (by kernel_rfl) (by kernel_rfl) (fun _ _ _ h => h) (Or.inl ⟨by rfl, ?_⟩) hHeld ?_
          rotate_left
          · intro w hSw
            simp only [List.getElem_toArray, List.getElem_cons_zero, List.getElem_cons_succ]
            (try dsimp only at hSw)
            go_simp
            (try with_reducible rfl)
          simp only [Act.put, List.getElem_toArray, List.getElem_cons_zero, List.getElem_cons_succ, List.setIfInBounds_toArray, List.set_cons_zero, List.set_cons_succ]
          refine wpAnyH_take (i := 18) (v := undef) rfl (by kernel_rfl) (by kernel_rfl) (by kernel_rfl) (fun _ _ _ h => h) (Or.inr ⟨rfl, rfl⟩) hHeld ?_
          simp only [Act.put, List.getElem_toArray, List.getElem_cons_zero, List.getElem_cons_succ, List.setIfInBounds_toArray, List.set_cons_zero, List.set_cons_succ]
          refine wpAnyH_take (i := 19) (v := undef) rfl (by kernel_rfl) (by kernel_rfl) (by kernel_rfl) (fun _ _ _ h => h) (Or.inr ⟨rfl, rfl⟩) hHeld ?_
          simp only [Act.put, List.getElem_toArray, List.getElem_cons_zero, List.getElem_cons_succ, List.setIfInBounds_toArray, List.set_cons_zero, List.set_cons_succ]
          refine wpAnyH_take (i := 20) (v := undef) rfl (by kernel_rfl) (by kernel_rfl) (by kernel_rfl) (fun _ _ _ h => h) (Or.inr ⟨rfl, rfl⟩) hHeld ?_
          simp only [Act.put, List.getElem_toArray, List.getElem_cons_zero, List.getElem_cons_succ, List.setIfInBounds_toArray, List.set_cons_zero, List.set_cons_succ]
          refine wpAnyH_take (i := 21) (v := undef) rfl (by kernel_rfl) (by kernel_rfl) (by kernel_rfl) (fun _ _ _ h => h) (Or.inr ⟨rfl, rfl⟩) hHeld ?_
          simp only [Act.put, List.getElem_toArray, List.getElem_cons_zero, List.getElem_cons_succ, List.setIfInBounds_toArray, List.set_cons_zero, List.set_cons_succ]
          refine wpAnyH_take (i := 22) (v := undef) rfl (by kernel_rfl) (by kernel_rfl) (by kernel_rfl) (fun _ _ _ h => h) (Or.inr ⟨rfl, rfl⟩) hHeld ?_
          simp only [Act.put, List.getElem_toArray, List.getElem_cons_zero, List.getElem_cons_succ, List.setIfInBounds_toArray, List.set_cons_zero, List.set_cons_succ]
          refine wpAnyH_take (i := 23) (v := undef) rfl (by kernel_rfl) (by kernel_rfl) (by kernel_rfl) (fun _ _ _ h => h) (Or.inr ⟨rfl, rfl⟩) hHeld ?_
          simp only [Act.put, List.getElem_toArray, List.getElem_cons_zero, List.getElem_cons_succ, List.setIfInBounds_toArray, List.set_cons_zero, List.set_cons_succ]
          refine wpAnyH_take (i := 24) (v := undef) rfl (by kernel_rfl) (by kernel_rfl) (by kernel_rfl) (fun _ _ _ h => h) (Or.inr ⟨rfl, rfl⟩) hHeld ?_
          simp only [Act.put, List.getElem_toArray, List.getElem_cons_zero, List.getElem_cons_succ, List.setIfInBounds_toArray, List.set_cons_zero, List.set_cons_succ]
          refine wpAnyH_take (i := 25) (v := undef) rfl (by kernel_rfl) (by kernel_rfl) (by kernel_rfl) (fun _ _ _ h => h) (Or.inr ⟨rfl, rfl⟩) hHeld ?_
          simp only [Act.put, List.getElem_toArray, List.getElem_cons_zero, List.getElem_cons_succ, List.setIfInBounds_toArray, List.set_cons_zero, List.set_cons_succ]
          refine wpAnyH_take (i := 26) (v := undef) rfl (by kernel_rfl) (by kernel_rfl) (by kernel_rfl) (fun _ _ _ h => h) (Or.inr ⟨rfl, rfl⟩) hHeld ?_
          simp only [Act.put, List.getElem_toArray, List.getElem_cons_zero, List.getElem_cons_succ, List.setIfInBounds_toArray, List.set_cons_zero, List.set_cons_succ]
          refine wpAnyH_take (i := 27) (v := undef) rfl (by kernel_rfl) (by kernel_rfl) (by kernel_rfl) (fun _ _ _ h => h) (Or.inr ⟨rfl, rfl⟩) hHeld ?_
          simp only [Act.put, List.getElem_toArray, List.getElem_cons_zero, List.getElem_cons_succ, List.setIfInBounds_toArray, List.set_cons_zero, List.set_cons_succ]
          refine wpAnyH_take (i := 28) (v := undef) rfl (by kernel_rfl) (by kernel_rfl) (by kernel_rfl) (fun _ _ _ h => h) (Or.inr ⟨rfl, rfl⟩) hHeld ?_
          simp only [Act.put, List.getElem_toArray, List.getElem_cons_zero, List.getElem_cons_succ, List.setIfInBounds_toArray, List.set_cons_zero, List.set_cons_succ]
          refine wpAnyH_take (i := 29) (v := undef) rfl (by kernel_rfl) (by kernel_rfl) (by kernel_rfl) (fun _ _ _ h => h) (Or.inr ⟨rfl, rfl⟩) hHeld ?_
          simp only [Act.put, List.getElem_toArray, List.getElem_cons_zero, List.getElem_cons_succ, List.setIfInBounds_toArray, List.set_cons_zero, List.set_cons_succ]
          refine wpAnyH_take (i := 30) (v := undef) rfl (by kernel_rfl) (by kernel_rfl) (by kernel_rfl) (fun _ _ _ h => h) (Or.inr ⟨rfl, rfl⟩) hHeld ?_
          simp only [Act.put, List.getElem_toArray, List.getElem_cons_zero, List.getElem_cons_succ, List.setIfInBounds_toArray, List.set_cons_zero, List.set_cons_succ]
          refine wpAnyH_take (i := 31) (v := undef) rfl (by kernel_rfl) (by kernel_rfl) (by kernel_rfl) (fun _ _ _ h => h) (Or.inr ⟨rfl, rfl⟩) hHeld ?_
          simp only [Act.put, List.getElem_toArray, List.getElem_cons_zero, List.getElem_cons_succ, List.setIfInBounds_toArray, List.set_cons_zero, List.set_cons_succ]
          refine wpAnyH_take (i := 32) (v := undef) rfl (by kernel_rfl) (by kernel_rfl) (by kernel_rfl) (fun _ _ _ h => h) (Or.inr ⟨rfl, rfl⟩) hHeld ?_
          simp only [Act.put, List.getElem_toArray, List.getElem_cons_zero, List.getElem_cons_succ, List.setIfInBounds_toArray, List.set_cons_zero, List.set_cons_succ]
          refine wpAnyH_take (i := 33) (v := undef) rfl (by kernel_rfl) (by kernel_rfl) (by kernel_rfl) (fun _ _ _ h => h) (Or.inr ⟨rfl, rfl⟩) hHeld ?_
          simp only [Act.put, List.getElem_toArray, List.getElem_cons_zero, List.getElem_cons_succ, List.setIfInBounds_toArray, List.set_cons_zero, List.set_cons_succ]
          refine wpAnyH_take (i := 34) (v := undef) rfl (by kernel_rfl) (by kernel_rfl) (by kernel_rfl) (fun _ _ _ h => h) (Or.inr ⟨rfl, rfl⟩) hHeld ?_
          simp only [Act.put, List.getElem_toArray, List.getElem_cons_zero, List.getElem_cons_succ, List.setIfInBounds_toArray, List.set_cons_zero, List.set_cons_succ]
          refine wpAnyH_take (i := 35) (v := undef) rfl (by kernel_rfl) (by kernel_rfl) (by kernel_rfl) (fun _ _ _ h => h) (Or.inr ⟨rfl, rfl⟩) hHeld ?_
          simp only [Act.put, List.getElem_toArray, List.getElem_cons_zero, List.getElem_cons_succ, List.setIfInBounds_toArray, List.set_cons_zero, List.set_cons_succ]
          refine wpAnyH_take (i := 36) (v := undef) rfl (by kernel_rfl) (by kernel_rfl) (by kernel_rfl) (fun _ _ _ h => h) (Or.inr ⟨rfl, rfl⟩) hHeld ?_
          simp only [Act.put, List.getElem_toArray, List.getElem_cons_zero, List.getElem_cons_succ, List.setIfInBounds_toArray, List.set_cons_zero, List.set_cons_succ]
          refine wpAnyH_take (i := 37) (v := undef) rfl (by kernel_rfl) (by kernel_rfl) (by kernel_rfl) (fun _ _ _ h => h) (Or.inr ⟨rfl, rfl⟩) hHeld ?_
          simp only [Act.put, List.getElem_toArray, List.getElem_cons_zero, List.getElem_cons_succ, List.setIfInBounds_toArray, List.set_cons_zero, List.set_cons_succ]
          refine wpAnyH_take (i := 38) (v := ?_) rfl (by kernel_rfl) (by kernel_rfl) (by kernel_rfl) (fun _ _ _ h => h) (Or.inl ⟨by rfl, ?_⟩) hHeld ?_
          rotate_left
          · intro w hSw
            simp only [List.getElem_toArray, List.getElem_cons_zero, List.getElem_cons_succ]
            (try dsimp only at hSw)
            go_simp
            (try with_reducible rfl)
          simp only [Act.put, List.getElem_toArray, List.getElem_cons_zero, List.getElem_cons_succ, List.setIfInBounds_toArray, List.set_cons_zero, List.set_cons_succ]
          refine wpAnyH_take (i := 39) (v := ?_) rfl (by kernel_rfl) (by kernel_rfl) (by kernel_rfl) (fun _ _ _ h => h) (Or.inl ⟨by rfl, ?_⟩) hHeld ?_
          rotate_left
          · intro w hSw
            simp only [List.getElem_toArray, List.getElem_cons_zero, List.getElem_cons_succ]
            (try dsimp only at hSw)
            go_simp
            (try with_reducible rfl)
          simp only [Act.put, List.getElem_toArray, List.getElem_cons_zero, List.getElem_cons_succ, List.setIfInBounds_toArray, List.set_cons_zero, List.set_cons_succ]
          refine wpAnyH_done (by kernel_rfl) ?_ _
          go_wp2
          go_roundw
          case rel => exact ⟨k + 1, x, by omega, by go_num, rfl, by omega, by omega, nxt, Lib.hid (Below.next hB.out (by (repeat' (first | assumption | exact Below.refl _ _ | apply Below.next_alloc | apply Below.drew | (apply Below.next; rotate_left; assumption)))))⟩
          case measure => simp [intOf]; omega
      · go_wp2_with (first
          | (go_at_call 7; (with_reducible refine (AW.out _ (Below.next b6.out hB.out)).mono ?_); rintro e w5 ⟨rfl, hB5⟩))
        go_ret
        exact ⟨rfl, Below.next (Below.next b6.out hB.out) hB5⟩
  · as_aux_lemma =>
    have e3 := l3 hc1
    have e4 : ((l.length : Int) != 0) = false := by rw [e3]; rfl
    have hlt : ¬ (0 : Int) < (l.length : Int) := by omega
    clear l2 l3 e3
    go_wp2_with (first
      | (go_at_call 12; (with_reducible refine (FC.out a1 c1 _ (LX.out _ b4.out)).mono ?_); rintro e w4 ⟨rfl, hB4⟩; have b5 := Lib.hid (Below.next b4.out hB4); clear y0 x0 x1 x2 x3 x4 x5 x6 x7 x8 x9 x10 x11 x12 x13 x14))
    have b6 := Lib.hid (Below.next b3.out b5.out)
    refine wp_loop_rounds 1 ?_
    rw [rounds_succ]
    go_wp2_with (first
      | (go_at_call 7; (with_reducible refine (AW.out _ b6.out).mono ?_); rintro e w5 ⟨rfl, hB5⟩))
    go_ret
    exact ⟨rfl, Below.next b6.out hB5⟩
theorem leach_any (w : World) (r : R) (sv : Nat → Value) (st n0 : Int) (hT : Tab w) (s0 : 0 ≤ st ∧ st ≤ 18446744073709551615) (u0 : 0 ≤ n0 ∧ n0 ≤ 18446744073709551615) (hL : Lists w r sv) (hf : 0 ≤ r.freq ∧ 0 ≤ r.uk ∧ r.uk ≤ 255) (hx : ∀ q, 4 ≤ q → q ≤ 12 → q ≠ 7 → ∀ x ∈ lst r q, (Lit.int .i64 x).wf = true) (hn : ∀ q, 4 ≤ q → q ≤ 12 → q ≠ 7 → (lst r q).length ≤ 9223372036854775807) (hn7 : r.day.length ≤ 9223372036854775807) :
    Calls Tryd.prog 4 #[ruleV r sv, .int .u64 st, .int .u64 n0] w fun e w' => e = .returned (.bool true) ∧ Below w.heap.size w w' := by
  cases h : smallR r
  · exact leach_no w r sv st n0 hT hL hn hn7 h
  · by_cases hc : chkR r = 0
    · exact leach_main w r sv st n0 hT s0.1 s0.2 u0.1 u0.2 hL hf hx hn hn7 h hc
    · exact leach_bad w r sv st n0 hT s0.1 s0.2 u0.1 u0.2 hL hf hx hn hn7 h hc
end Go.Proofs.YtkbohijlhhpfbaaDoor.Xp

