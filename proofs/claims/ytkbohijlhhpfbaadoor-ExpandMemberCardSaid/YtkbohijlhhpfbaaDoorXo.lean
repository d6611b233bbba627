import Derived.Test.YtkbohijlhhpfbaaDoorXh
import Derived.IntWalk
/- The walk of the law ExpandMember (printed by gen_laws.py). -/
namespace Go.Proofs.YtkbohijlhhpfbaaDoor.Xp
open Go.RowKit Ru Ut Cw Ra
set_option maxHeartbeats 16000000 in
set_option maxRecDepth 100000 in
theorem lmem_no (w : World) (r : R) (sv : Nat → Value) (st n0 : Int) (hT : Tab w) (hL : Lists w r sv) (hn : ∀ q, 4 ≤ q → q ≤ 12 → q ≠ 7 → (lst r q).length ≤ 9223372036854775807) (hn7 : r.day.length ≤ 9223372036854775807) (hsm : smallR r = false) :
    Calls Tryd.prog 5 #[ruleV r sv, .int .u64 st, .int .u64 n0] w fun e w' => e = .returned (.bool true) ∧ Below w.heap.size w w' := by
  have FS : ∀ W, Below w.heap.size w W → Calls Tryd.prog 6 #[ruleV r sv] W fun e w' => e = .returned (.bool false) ∧ Below W.heap.size W w' := fun W hB => by
    have h := small_any W r sv (hL.later hB) hn hn7
    rwa [hsm] at h
  have AW := Lib.hid (fun W (hB : Below w.heap.size w W) => xawake_any W (hT.later hB))
  clear hL hn hn7 hT
  unfold ruleV ruleC at *
  replace FS := Lib.hid FS
  go_enter Tryd.func5, Tryd.ntmps5
  go_wp2_with (first
    | (go_at_call 6; (with_reducible refine (FS.out _ (by (repeat' (first | assumption | exact Below.refl _ _ | apply Below.next_alloc | apply Below.drew | (apply Below.next; rotate_left; assumption))))).mono ?_); rintro e w1 ⟨rfl, hB1⟩; have b1 := Lib.hid (show Below w.heap.size w w1 from Below.next_allocs' hB1))
    | (go_at_call 7; (with_reducible refine (AW.out _ b1.out).mono ?_); rintro e w2 ⟨rfl, hB2⟩; have b2 := Lib.hid (Below.next b1.out hB2)))
  go_ret
  exact ⟨rfl, b2.out⟩
set_option maxHeartbeats 16000000 in
set_option maxRecDepth 100000 in
theorem lmem_big (w : World) (r : R) (sv : Nat → Value) (st n0 : Int) (hT : Tab w) (s0 : 0 ≤ st) (s1 : st ≤ 18446744073709551615) (u0 : 0 ≤ n0) (u1 : n0 ≤ 18446744073709551615) (hL : Lists w r sv) (hf : 0 ≤ r.freq ∧ 0 ≤ r.uk ∧ r.uk ≤ 255) (hx : ∀ q, 4 ≤ q → q ≤ 12 → q ≠ 7 → ∀ x ∈ lst r q, (Lit.int .i64 x).wf = true) (hn : ∀ q, 4 ≤ q → q ≤ 12 → q ≠ 7 → (lst r q).length ≤ 9223372036854775807) (hn7 : r.day.length ≤ 9223372036854775807) (hsm : smallR r = true) (hg : 4000 < costE r (st % 315537897600) (Pd.index r.freq r.wkst (n0 % 315537897600))) :
    Calls Tryd.prog 5 #[ruleV r sv, .int .u64 st, .int .u64 n0] w fun e w' => e = .returned (.bool true) ∧ Below w.heap.size w w' := by
  have FS : ∀ W, Below w.heap.size w W → Calls Tryd.prog 6 #[ruleV r sv] W fun e w' => e = .returned (.bool true) ∧ Below W.heap.size W w' := fun W hB => by
    have h := small_any W r sv (hL.later hB) hn hn7
    rwa [hsm] at h
  have hS := short_small hsm
  have hW : Wide r := ⟨hS, hf, hx⟩
  have FO : ∀ W, Below w.heap.size w W → Calls Tryd.prog 8 #[ruleV r sv] W (GivesQ W r) := fun W hB => (own_any W r sv (hL.later hB) hS).mono fun e w' h => givesQ h
  have AW := Lib.hid (fun W (hB : Below w.heap.size w W) => xawake_any W (hT.later hB))
  have RX := fun W => @Tm.rboxT w r sv 27 W
  have FI : ∀ W, Below w.heap.size w W → Calls Tryd.prog 9 #[.int .u8 r.freq, .int .i64 r.wkst, .int .i64 (n0 % 315537897600)] W fun e w' => e = .returned (.int .i64 (Pd.index r.freq r.wkst (n0 % 315537897600))) ∧ W = w' := fun W hB => index_any _ _ _ W (hT.later hB) hf.1
  have s2 : 0 ≤ st % 315537897600 ∧ st % 315537897600 ≤ 315537897599 := by omega
  have t2 : 0 ≤ n0 % 315537897600 ∧ n0 % 315537897600 ≤ 315537897599 := by omega
  have f0 := hf.1
  obtain ⟨i, hi⟩ : ∃ i, i = Pd.index r.freq r.wkst (n0 % 315537897600) := ⟨_, rfl⟩
  rw [← hi] at FI
  have HT := Lib.hid (fun W (hB : Below w.heap.size w W) => hT.later hB)
  have FT := Lib.hid (fun a1 c1 W hT hL => qCost hW (a := a1) (c := c1) (W := W) hT hL (st % 315537897600) i)
  rw [← hi] at hg
  unfold ruleV ruleC at *
  replace FS := Lib.hid FS
  replace FO := Lib.hid FO
  replace FI := Lib.hid FI
  replace RX := Lib.hid RX
  clear hL hn hn7 hx hf hS hT
  generalize hss : st % 315537897600 = s at *
  generalize htt : n0 % 315537897600 = t at *
  replace hi := Lib.hid hi
  generalize costE r s i = C at *
  go_enter Tryd.func5, Tryd.ntmps5
  go_wp2_with (first
    | (go_at_call 6; (with_reducible refine (FS.out _ (by (repeat' (first | assumption | exact Below.refl _ _ | apply Below.next_alloc | apply Below.drew | (apply Below.next; rotate_left; assumption))))).mono ?_); rintro e w1 ⟨rfl, hB1⟩; have b1 := Lib.hid (show Below w.heap.size w w1 from Below.next_allocs' hB1); obtain ⟨k, k0, k1, k2, k3, k4, k5, k6, k7, k8, k9, k10, k11, k12, k13, k14⟩ := RX.out w1 hB1; clear hB1)
    | (go_at_call 8; (with_reducible refine (FO.out _ b1.out).mono ?_); rintro e w2 ⟨a1, c1, rfl, hL2, hB2⟩; replace hL2 := Lib.hid hL2; clear k k0 k1 k2 k3 k4 k5 k6 k7 k8 k9 k10 k11 k12 k13 k14; have b2 := Lib.hid (Below.next b1.out hB2); clear hB2)
    | (go_at_call 9; (with_reducible refine (FI.out _ (Below.next_alloc b2.out _)).mono ?_); rintro e w3 ⟨rfl, rfl⟩)
    | (go_at_call 15; (with_reducible refine (FT.out a1 c1 _ (HT.out _ (Below.next_alloc b2.out _)) (hL2.out.later (Below.next_alloc (Below.refl _ _) _))).mono ?_); rintro e w3 ⟨rfl, hB3⟩; have b3 := Lib.hid (Below.next (Below.next_alloc b2.out _) hB3))
    | (go_at_call 7; (with_reducible refine (AW.out _ b3.out).mono ?_); rintro e w5 ⟨rfl, hB5⟩))
  go_ret
  exact ⟨rfl, Below.next b3.out hB5⟩
end Go.Proofs.YtkbohijlhhpfbaaDoor.Xp

/- The walk of the law ExpandMember (printed by gen_laws.py). -/
namespace Go.Proofs.YtkbohijlhhpfbaaDoor.Xp
open Go.RowKit Ru Ut Cw Ra
set_option maxHeartbeats 16000000 in
set_option maxRecDepth 100000 in
theorem lmem_tt (w : World) (r : R) (sv : Nat → Value) (st n0 : Int) (hT : Tab w) (s0 : 0 ≤ st) (s1 : st ≤ 18446744073709551615) (u0 : 0 ≤ n0) (u1 : n0 ≤ 18446744073709551615) (hL : Lists w r sv) (hf : 0 ≤ r.freq ∧ 0 ≤ r.uk ∧ r.uk ≤ 255) (hx : ∀ q, 4 ≤ q → q ≤ 12 → q ≠ 7 → ∀ x ∈ lst r q, (Lit.int .i64 x).wf = true) (hn : ∀ q, 4 ≤ q → q ≤ 12 → q ≠ 7 → (lst r q).length ≤ 9223372036854775807) (hn7 : r.day.length ≤ 9223372036854775807) (hsm : smallR r = true) (hg : costE r (st % 315537897600) (Pd.index r.freq r.wkst (n0 % 315537897600)) ≤ 4000) (h1 : Dy.passes r (st % 315537897600) (n0 % 315537897600 / 86400) = true) (h2 : Tm.passT r (st % 315537897600) (n0 % 315537897600 % 86400) = true) :
    Calls Tryd.prog 5 #[ruleV r sv, .int .u64 st, .int .u64 n0] w fun e w' => e = .returned (.bool true) ∧ Below w.heap.size w w' := by
  have FS : ∀ W, Below w.heap.size w W → Calls Tryd.prog 6 #[ruleV r sv] W fun e w' => e = .returned (.bool true) ∧ Below W.heap.size W w' := fun W hB => by
    have h := small_any W r sv (hL.later hB) hn hn7
    rwa [hsm] at h
  have hS := short_small hsm
  have hW : Wide r := ⟨hS, hf, hx⟩
  have FO : ∀ W, Below w.heap.size w W → Calls Tryd.prog 8 #[ruleV r sv] W (GivesQ W r) := fun W hB => (own_any W r sv (hL.later hB) hS).mono fun e w' h => givesQ h
  have AW := Lib.hid (fun W (hB : Below w.heap.size w W) => xawake_any W (hT.later hB))
  have RX := fun W => @Tm.rboxT w r sv 27 W
  have FI : ∀ W, Below w.heap.size w W → Calls Tryd.prog 9 #[.int .u8 r.freq, .int .i64 r.wkst, .int .i64 (n0 % 315537897600)] W fun e w' => e = .returned (.int .i64 (Pd.index r.freq r.wkst (n0 % 315537897600))) ∧ W = w' := fun W hB => index_any _ _ _ W (hT.later hB) hf.1
  have s2 : 0 ≤ st % 315537897600 ∧ st % 315537897600 ≤ 315537897599 := by omega
  have t2 : 0 ≤ n0 % 315537897600 ∧ n0 % 315537897600 ≤ 315537897599 := by omega
  have f0 := hf.1
  obtain ⟨i, hi⟩ : ∃ i, i = Pd.index r.freq r.wkst (n0 % 315537897600) := ⟨_, rfl⟩
  rw [← hi] at FI
  have HT := Lib.hid (fun W (hB : Below w.heap.size w W) => hT.later hB)
  have FT := Lib.hid (fun a1 c1 W hT hL => qCost hW (a := a1) (c := c1) (W := W) hT hL (st % 315537897600) i)
  have FA := Lib.hid (fun a1 c1 W hT hL => qAll hW (a := a1) (c := c1) (W := W) hT hL (st % 315537897600) i)
  have FD := Lib.hid (fun a1 c1 W hT hL => by have := qDay hW (a := a1) (c := c1) (W := W) hT hL (st % 315537897600) (n0 % 315537897600 / 86400) (by omega); rwa [h1] at this)
  have FM := Lib.hid (fun a1 c1 W hL => by have := qTime hW (a := a1) (c := c1) (W := W) hL (st % 315537897600) (n0 % 315537897600 % 86400); rwa [h2] at this)
  rw [← hi] at hg
  have hml : decide (n0 % 315537897600 ∈ allE r (st % 315537897600) i) = true := by rw [member_law f0 s2.1 s2.2 t2.1 t2.2 hi hg, h1, h2]; rfl
  have FN := Lib.hid (fun W a c (h : Ints W (.slice a (allE r (st % 315537897600) i).length c) (allE r (st % 315537897600) i)) => by have := in_any (n0 % 315537897600) h (by have := allE_len r (st % 315537897600) i; omega); rwa [hml] at this)
  clear hml h1 h2
  unfold ruleV ruleC at *
  replace FS := Lib.hid FS
  replace FO := Lib.hid FO
  replace FI := Lib.hid FI
  replace RX := Lib.hid RX
  clear hL hn hn7 hx hf hS hT
  generalize hss : st % 315537897600 = s at *
  generalize htt : n0 % 315537897600 = t at *
  replace hi := Lib.hid hi
  generalize costE r s i = C at *
  generalize allE r s i = l at *
  have hq := show IntKind.i64.wrap (t.tdiv 86400) = t / 86400 from Go.IntWalk.i64_quo _ _ (by omega)
  have hm := show t.tmod 86400 = t % 86400 from Int.tmod_eq_emod_of_nonneg (by omega)
  go_enter Tryd.func5, Tryd.ntmps5
  go_wp2_with (first
    | (go_at_call 6; (with_reducible refine (FS.out _ (by (repeat' (first | assumption | exact Below.refl _ _ | apply Below.next_alloc | apply Below.drew | (apply Below.next; rotate_left; assumption))))).mono ?_); rintro e w1 ⟨rfl, hB1⟩; have b1 := Lib.hid (show Below w.heap.size w w1 from Below.next_allocs' hB1); obtain ⟨k, k0, k1, k2, k3, k4, k5, k6, k7, k8, k9, k10, k11, k12, k13, k14⟩ := RX.out w1 hB1; clear hB1)
    | (go_at_call 8; (with_reducible refine (FO.out _ b1.out).mono ?_); rintro e w2 ⟨a1, c1, rfl, hL2, hB2⟩; replace hL2 := Lib.hid hL2; clear k k0 k1 k2 k3 k4 k5 k6 k7 k8 k9 k10 k11 k12 k13 k14; have b2 := Lib.hid (Below.next b1.out hB2); clear hB2)
    | (go_at_call 9; (with_reducible refine (FI.out _ (Below.next_alloc b2.out _)).mono ?_); rintro e w3 ⟨rfl, rfl⟩)
    | (go_at_call 15; (with_reducible refine (FT.out a1 c1 _ (HT.out _ (Below.next_alloc b2.out _)) (hL2.out.later (Below.next_alloc (Below.refl _ _) _))).mono ?_); rintro e w3 ⟨rfl, hB3⟩; replace hB3 := Lib.hid hB3))
  have BX := Lib.hid (fun W => @qBox r a1 c1 w2 34 W)
  have LX := Lib.hid (fun W (hB : Below (w2.alloc (.cells #[.int .u8 r.freq, .int .i64 r.interval, .int .i64 r.count, .int .u8 r.uk, .int .i64 r.us, .slice (a1 4) r.sec.length (c1 4), .slice (a1 5) r.min.length (c1 5), .slice (a1 6) r.hour.length (c1 6), .slice (a1 7) r.day.length (c1 7), .slice (a1 8) r.mday.length (c1 8), .slice (a1 9) r.yday.length (c1 9), .slice (a1 10) r.weekno.length (c1 10), .slice (a1 11) r.month.length (c1 11), .slice (a1 12) r.setpos.length (c1 12), .int .i64 r.wkst] 34)).heap.size (w2.alloc (.cells #[.int .u8 r.freq, .int .i64 r.interval, .int .i64 r.count, .int .u8 r.uk, .int .i64 r.us, .slice (a1 4) r.sec.length (c1 4), .slice (a1 5) r.min.length (c1 5), .slice (a1 6) r.hour.length (c1 6), .slice (a1 7) r.day.length (c1 7), .slice (a1 8) r.mday.length (c1 8), .slice (a1 9) r.yday.length (c1 9), .slice (a1 10) r.weekno.length (c1 10), .slice (a1 11) r.month.length (c1 11), .slice (a1 12) r.setpos.length (c1 12), .int .i64 r.wkst] 34)) W) => hL2.out.later (Below.next_allocs' hB))
  have LB := Lib.hid (fun W (hB : Below (w2.alloc (.cells #[.int .u8 r.freq, .int .i64 r.interval, .int .i64 r.count, .int .u8 r.uk, .int .i64 r.us, .slice (a1 4) r.sec.length (c1 4), .slice (a1 5) r.min.length (c1 5), .slice (a1 6) r.hour.length (c1 6), .slice (a1 7) r.day.length (c1 7), .slice (a1 8) r.mday.length (c1 8), .slice (a1 9) r.yday.length (c1 9), .slice (a1 10) r.weekno.length (c1 10), .slice (a1 11) r.month.length (c1 11), .slice (a1 12) r.setpos.length (c1 12), .int .i64 r.wkst] 34)).heap.size (w2.alloc (.cells #[.int .u8 r.freq, .int .i64 r.interval, .int .i64 r.count, .int .u8 r.uk, .int .i64 r.us, .slice (a1 4) r.sec.length (c1 4), .slice (a1 5) r.min.length (c1 5), .slice (a1 6) r.hour.length (c1 6), .slice (a1 7) r.day.length (c1 7), .slice (a1 8) r.mday.length (c1 8), .slice (a1 9) r.yday.length (c1 9), .slice (a1 10) r.weekno.length (c1 10), .slice (a1 11) r.month.length (c1 11), .slice (a1 12) r.setpos.length (c1 12), .int .i64 r.wkst] 34)) W) => Below.next_allocs' hB)
  have b3 := Lib.hid (Below.next_alloc b2.out (.cells #[.int .u8 r.freq, .int .i64 r.interval, .int .i64 r.count, .int .u8 r.uk, .int .i64 r.us, .slice (a1 4) r.sec.length (c1 4), .slice (a1 5) r.min.length (c1 5), .slice (a1 6) r.hour.length (c1 6), .slice (a1 7) r.day.length (c1 7), .slice (a1 8) r.mday.length (c1 8), .slice (a1 9) r.yday.length (c1 9), .slice (a1 10) r.weekno.length (c1 10), .slice (a1 11) r.month.length (c1 11), .slice (a1 12) r.setpos.length (c1 12), .int .i64 r.wkst] 34))
  have z3 : w2.heap.size < (w2.alloc (.cells #[.int .u8 r.freq, .int .i64 r.interval, .int .i64 r.count, .int .u8 r.uk, .int .i64 r.us, .slice (a1 4) r.sec.length (c1 4), .slice (a1 5) r.min.length (c1 5), .slice (a1 6) r.hour.length (c1 6), .slice (a1 7) r.day.length (c1 7), .slice (a1 8) r.mday.length (c1 8), .slice (a1 9) r.yday.length (c1 9), .slice (a1 10) r.weekno.length (c1 10), .slice (a1 11) r.month.length (c1 11), .slice (a1 12) r.setpos.length (c1 12), .int .i64 r.wkst] 34)).heap.size := by simp
  obtain ⟨y0, x0, x1, x2, x3, x4, x5, x6, x7, x8, x9, x10, x11, x12, x13, x14⟩ := BX.out _ (Below.refl _ _)
  replace hB3 := Lib.hid hB3.out
  generalize w2.alloc (.cells #[.int .u8 r.freq, .int .i64 r.interval, .int .i64 r.count, .int .u8 r.uk, .int .i64 r.us, .slice (a1 4) r.sec.length (c1 4), .slice (a1 5) r.min.length (c1 5), .slice (a1 6) r.hour.length (c1 6), .slice (a1 7) r.day.length (c1 7), .slice (a1 8) r.mday.length (c1 8), .slice (a1 9) r.yday.length (c1 9), .slice (a1 10) r.weekno.length (c1 10), .slice (a1 11) r.month.length (c1 11), .slice (a1 12) r.setpos.length (c1 12), .int .i64 r.wkst] 34) = W0 at *
  have b4 := Lib.hid (Below.next b3.out hB3.out)
  have SL := Lib.hid (fun W (hB : Below w3.heap.size w3 W) => (BX.out W (Below.next hB3.out hB)).2)
  clear y0 x0 x1 x2 x3 x4 x5 x6 x7 x8 x9 x10 x11 x12 x13 x14
  obtain ⟨y0, x0, x1, x2, x3, x4, x5, x6, x7, x8, x9, x10, x11, x12, x13, x14⟩ := BX.out w3 hB3.out
  go_region_held3 (fun w' => w'.cell? ⟨w2.heap.size, 0, none⟩ = some (.int .u8 r.freq) ∧ w'.cell? ⟨w2.heap.size, 1, none⟩ = some (.int .i64 r.interval) ∧ w'.cell? ⟨w2.heap.size, 2, none⟩ = some (.int .i64 r.count) ∧ w'.cell? ⟨w2.heap.size, 3, none⟩ = some (.int .u8 r.uk) ∧ w'.cell? ⟨w2.heap.size, 4, none⟩ = some (.int .i64 r.us) ∧ w'.cell? ⟨w2.heap.size, 5, none⟩ = some (.slice (a1 4) r.sec.length (c1 4)) ∧ w'.cell? ⟨w2.heap.size, 6, none⟩ = some (.slice (a1 5) r.min.length (c1 5)) ∧ w'.cell? ⟨w2.heap.size, 7, none⟩ = some (.slice (a1 6) r.hour.length (c1 6)) ∧ w'.cell? ⟨w2.heap.size, 8, none⟩ = some (.slice (a1 7) r.day.length (c1 7)) ∧ w'.cell? ⟨w2.heap.size, 9, none⟩ = some (.slice (a1 8) r.mday.length (c1 8)) ∧ w'.cell? ⟨w2.heap.size, 10, none⟩ = some (.slice (a1 9) r.yday.length (c1 9)) ∧ w'.cell? ⟨w2.heap.size, 11, none⟩ = some (.slice (a1 10) r.weekno.length (c1 10)) ∧ w'.cell? ⟨w2.heap.size, 12, none⟩ = some (.slice (a1 11) r.month.length (c1 11)) ∧ w'.cell? ⟨w2.heap.size, 13, none⟩ = some (.slice (a1 12) r.setpos.length (c1 12)) ∧ w'.cell? ⟨w2.heap.size, 14, none⟩ = some (.int .i64 r.wkst)) (first | go_keep | exact SL.out _ (by (repeat' (first | assumption | exact Below.refl _ _ | apply Below.next_alloc | apply Below.drew | (apply Below.next; rotate_left; assumption)))))
    (first
      | (go_at_call 10; (with_reducible refine (FA.out a1 c1 _ (HT.out _ (Below.next b4.out (by (repeat' (first | assumption | exact Below.refl _ _ | apply Below.next_alloc | apply Below.drew | (apply Below.next; rotate_left; assumption)))))) (LX.out _ (Below.next hB3.out (by (repeat' (first | assumption | exact Below.refl _ _ | apply Below.next_alloc | apply Below.drew | (apply Below.next; rotate_left; assumption))))))).mono ?_); rintro e y2 ⟨v2, rfl, hO2, hC2⟩; obtain ⟨p2, q2, hv2⟩ := OwnI.slice hO2; subst hv2; have hI2 := Lib.hid hO2.ints)
      | (go_at_call 13; (with_reducible refine (FN.out _ _ _ (hI2.out.below (by (repeat' (first | assumption | exact Below.refl _ _ | apply Below.next_alloc | apply Below.drew | (apply Below.next; rotate_left; assumption)))))).mono ?_); rintro e y3 ⟨rfl, rfl⟩)
      | (go_at_call 16; (with_reducible refine (FD.out a1 c1 _ (HT.out _ (Below.next b4.out (by (repeat' (first | assumption | exact Below.refl _ _ | apply Below.next_alloc | apply Below.drew | (apply Below.next; rotate_left; assumption)))))) (LX.out _ (Below.next hB3.out (by (repeat' (first | assumption | exact Below.refl _ _ | apply Below.next_alloc | apply Below.drew | (apply Below.next; rotate_left; assumption))))))).mono ?_); rintro e y4 ⟨rfl, hC4⟩)
      | (go_at_call 17; (with_reducible refine (FM.out a1 c1 _ (LX.out _ (Below.next hB3.out (by (repeat' (first | assumption | exact Below.refl _ _ | apply Below.next_alloc | apply Below.drew | (apply Below.next; rotate_left; assumption))))))).mono ?_); rintro e y5 ⟨rfl, hC5⟩)
      | (go_at_call 7; (with_reducible refine (AW.out _ (Below.next b4.out (by (repeat' (first | assumption | exact Below.refl _ _ | apply Below.next_alloc | apply Below.drew | (apply Below.next; rotate_left; assumption)))))).mono ?_); rintro e y6 ⟨rfl, hC6⟩))
  go_wp2
  go_ret
  exact ⟨rfl, Below.next b4.out (by (repeat' (first | assumption | exact Below.refl _ _ | apply Below.next_alloc | apply Below.drew | (apply Below.next; rotate_left; assumption))))⟩
set_option maxHeartbeats 16000000 in
set_option maxRecDepth 100000 in
theorem lmem_tf (w : World) (r : R) (sv : Nat → Value) (st n0 : Int) (hT : Tab w) (s0 : 0 ≤ st) (s1 : st ≤ 18446744073709551615) (u0 : 0 ≤ n0) (u1 : n0 ≤ 18446744073709551615) (hL : Lists w r sv) (hf : 0 ≤ r.freq ∧ 0 ≤ r.uk ∧ r.uk ≤ 255) (hx : ∀ q, 4 ≤ q → q ≤ 12 → q ≠ 7 → ∀ x ∈ lst r q, (Lit.int .i64 x).wf = true) (hn : ∀ q, 4 ≤ q → q ≤ 12 → q ≠ 7 → (lst r q).length ≤ 9223372036854775807) (hn7 : r.day.length ≤ 9223372036854775807) (hsm : smallR r = true) (hg : costE r (st % 315537897600) (Pd.index r.freq r.wkst (n0 % 315537897600)) ≤ 4000) (h1 : Dy.passes r (st % 315537897600) (n0 % 315537897600 / 86400) = true) (h2 : Tm.passT r (st % 315537897600) (n0 % 315537897600 % 86400) = false) :
    Calls Tryd.prog 5 #[ruleV r sv, .int .u64 st, .int .u64 n0] w fun e w' => e = .returned (.bool true) ∧ Below w.heap.size w w' := by
  have FS : ∀ W, Below w.heap.size w W → Calls Tryd.prog 6 #[ruleV r sv] W fun e w' => e = .returned (.bool true) ∧ Below W.heap.size W w' := fun W hB => by
    have h := small_any W r sv (hL.later hB) hn hn7
    rwa [hsm] at h
  have hS := short_small hsm
  have hW : Wide r := ⟨hS, hf, hx⟩
  have FO : ∀ W, Below w.heap.size w W → Calls Tryd.prog 8 #[ruleV r sv] W (GivesQ W r) := fun W hB => (own_any W r sv (hL.later hB) hS).mono fun e w' h => givesQ h
  have AW := Lib.hid (fun W (hB : Below w.heap.size w W) => xawake_any W (hT.later hB))
  have RX := fun W => @Tm.rboxT w r sv 27 W
  have FI : ∀ W, Below w.heap.size w W → Calls Tryd.prog 9 #[.int .u8 r.freq, .int .i64 r.wkst, .int .i64 (n0 % 315537897600)] W fun e w' => e = .returned (.int .i64 (Pd.index r.freq r.wkst (n0 % 315537897600))) ∧ W = w' := fun W hB => index_any _ _ _ W (hT.later hB) hf.1
  have s2 : 0 ≤ st % 315537897600 ∧ st % 315537897600 ≤ 315537897599 := by omega
  have t2 : 0 ≤ n0 % 315537897600 ∧ n0 % 315537897600 ≤ 315537897599 := by omega
  have f0 := hf.1
  obtain ⟨i, hi⟩ : ∃ i, i = Pd.index r.freq r.wkst (n0 % 315537897600) := ⟨_, rfl⟩
  rw [← hi] at FI
  have HT := Lib.hid (fun W (hB : Below w.heap.size w W) => hT.later hB)
  have FT := Lib.hid (fun a1 c1 W hT hL => qCost hW (a := a1) (c := c1) (W := W) hT hL (st % 315537897600) i)
  have FA := Lib.hid (fun a1 c1 W hT hL => qAll hW (a := a1) (c := c1) (W := W) hT hL (st % 315537897600) i)
  have FD := Lib.hid (fun a1 c1 W hT hL => by have := qDay hW (a := a1) (c := c1) (W := W) hT hL (st % 315537897600) (n0 % 315537897600 / 86400) (by omega); rwa [h1] at this)
  have FM := Lib.hid (fun a1 c1 W hL => by have := qTime hW (a := a1) (c := c1) (W := W) hL (st % 315537897600) (n0 % 315537897600 % 86400); rwa [h2] at this)
  rw [← hi] at hg
  have hml : decide (n0 % 315537897600 ∈ allE r (st % 315537897600) i) = false := by rw [member_law f0 s2.1 s2.2 t2.1 t2.2 hi hg, h1, h2]; rfl
  have FN := Lib.hid (fun W a c (h : Ints W (.slice a (allE r (st % 315537897600) i).length c) (allE r (st % 315537897600) i)) => by have := in_any (n0 % 315537897600) h (by have := allE_len r (st % 315537897600) i; omega); rwa [hml] at this)
  clear hml h1 h2
  unfold ruleV ruleC at *
  replace FS := Lib.hid FS
  replace FO := Lib.hid FO
  replace FI := Lib.hid FI
  replace RX := Lib.hid RX
  clear hL hn hn7 hx hf hS hT
  generalize hss : st % 315537897600 = s at *
  generalize htt : n0 % 315537897600 = t at *
  replace hi := Lib.hid hi
  generalize costE r s i = C at *
  generalize allE r s i = l at *
  have hq := show IntKind.i64.wrap (t.tdiv 86400) = t / 86400 from Go.IntWalk.i64_quo _ _ (by omega)
  have hm := show t.tmod 86400 = t % 86400 from Int.tmod_eq_emod_of_nonneg (by omega)
  go_enter Tryd.func5, Tryd.ntmps5
  go_wp2_with (first
    | (go_at_call 6; (with_reducible refine (FS.out _ (by (repeat' (first | assumption | exact Below.refl _ _ | apply Below.next_alloc | apply Below.drew | (apply Below.next; rotate_left; assumption))))).mono ?_); rintro e w1 ⟨rfl, hB1⟩; have b1 := Lib.hid (show Below w.heap.size w w1 from Below.next_allocs' hB1); obtain ⟨k, k0, k1, k2, k3, k4, k5, k6, k7, k8, k9, k10, k11, k12, k13, k14⟩ := RX.out w1 hB1; clear hB1)
    | (go_at_call 8; (with_reducible refine (FO.out _ b1.out).mono ?_); rintro e w2 ⟨a1, c1, rfl, hL2, hB2⟩; replace hL2 := Lib.hid hL2; clear k k0 k1 k2 k3 k4 k5 k6 k7 k8 k9 k10 k11 k12 k13 k14; have b2 := Lib.hid (Below.next b1.out hB2); clear hB2)
    | (go_at_call 9; (with_reducible refine (FI.out _ (Below.next_alloc b2.out _)).mono ?_); rintro e w3 ⟨rfl, rfl⟩)
    | (go_at_call 15; (with_reducible refine (FT.out a1 c1 _ (HT.out _ (Below.next_alloc b2.out _)) (hL2.out.later (Below.next_alloc (Below.refl _ _) _))).mono ?_); rintro e w3 ⟨rfl, hB3⟩; replace hB3 := Lib.hid hB3))
  have BX := Lib.hid (fun W => @qBox r a1 c1 w2 34 W)
  have LX := Lib.hid (fun W (hB : Below (w2.alloc (.cells #[.int .u8 r.freq, .int .i64 r.interval, .int .i64 r.count, .int .u8 r.uk, .int .i64 r.us, .slice (a1 4) r.sec.length (c1 4), .slice (a1 5) r.min.length (c1 5), .slice (a1 6) r.hour.length (c1 6), .slice (a1 7) r.day.length (c1 7), .slice (a1 8) r.mday.length (c1 8), .slice (a1 9) r.yday.length (c1 9), .slice (a1 10) r.weekno.length (c1 10), .slice (a1 11) r.month.length (c1 11), .slice (a1 12) r.setpos.length (c1 12), .int .i64 r.wkst] 34)).heap.size (w2.alloc (.cells #[.int .u8 r.freq, .int .i64 r.interval, .int .i64 r.count, .int .u8 r.uk, .int .i64 r.us, .slice (a1 4) r.sec.length (c1 4), .slice (a1 5) r.min.length (c1 5), .slice (a1 6) r.hour.length (c1 6), .slice (a1 7) r.day.length (c1 7), .slice (a1 8) r.mday.length (c1 8), .slice (a1 9) r.yday.length (c1 9), .slice (a1 10) r.weekno.length (c1 10), .slice (a1 11) r.month.length (c1 11), .slice (a1 12) r.setpos.length (c1 12), .int .i64 r.wkst] 34)) W) => hL2.out.later (Below.next_allocs' hB))
  have LB := Lib.hid (fun W (hB : Below (w2.alloc (.cells #[.int .u8 r.freq, .int .i64 r.interval, .int .i64 r.count, .int .u8 r.uk, .int .i64 r.us, .slice (a1 4) r.sec.length (c1 4), .slice (a1 5) r.min.length (c1 5), .slice (a1 6) r.hour.length (c1 6), .slice (a1 7) r.day.length (c1 7), .slice (a1 8) r.mday.length (c1 8), .slice (a1 9) r.yday.length (c1 9), .slice (a1 10) r.weekno.length (c1 10), .slice (a1 11) r.month.length (c1 11), .slice (a1 12) r.setpos.length (c1 12), .int .i64 r.wkst] 34)).heap.size (w2.alloc (.cells #[.int .u8 r.freq, .int .i64 r.interval, .int .i64 r.count, .int .u8 r.uk, .int .i64 r.us, .slice (a1 4) r.sec.length (c1 4), .slice (a1 5) r.min.length (c1 5), .slice (a1 6) r.hour.length (c1 6), .slice (a1 7) r.day.length (c1 7), .slice (a1 8) r.mday.length (c1 8), .slice (a1 9) r.yday.length (c1 9), .slice (a1 10) r.weekno.length (c1 10), .slice (a1 11) r.month.length (c1 11), .slice (a1 12) r.setpos.length (c1 12), .int .i64 r.wkst] 34)) W) => Below.next_allocs' hB)
  have b3 := Lib.hid (Below.next_alloc b2.out (.cells #[.int .u8 r.freq, .int .i64 r.interval, .int .i64 r.count, .int .u8 r.uk, .int .i64 r.us, .slice (a1 4) r.sec.length (c1 4), .slice (a1 5) r.min.length (c1 5), .slice (a1 6) r.hour.length (c1 6), .slice (a1 7) r.day.length (c1 7), .slice (a1 8) r.mday.length (c1 8), .slice (a1 9) r.yday.length (c1 9), .slice (a1 10) r.weekno.length (c1 10), .slice (a1 11) r.month.length (c1 11), .slice (a1 12) r.setpos.length (c1 12), .int .i64 r.wkst] 34))
  have z3 : w2.heap.size < (w2.alloc (.cells #[.int .u8 r.freq, .int .i64 r.interval, .int .i64 r.count, .int .u8 r.uk, .int .i64 r.us, .slice (a1 4) r.sec.length (c1 4), .slice (a1 5) r.min.length (c1 5), .slice (a1 6) r.hour.length (c1 6), .slice (a1 7) r.day.length (c1 7), .slice (a1 8) r.mday.length (c1 8), .slice (a1 9) r.yday.length (c1 9), .slice (a1 10) r.weekno.length (c1 10), .slice (a1 11) r.month.length (c1 11), .slice (a1 12) r.setpos.length (c1 12), .int .i64 r.wkst] 34)).heap.size := by simp
  obtain ⟨y0, x0, x1, x2, x3, x4, x5, x6, x7, x8, x9, x10, x11, x12, x13, x14⟩ := BX.out _ (Below.refl _ _)
  replace hB3 := Lib.hid hB3.out
  generalize w2.alloc (.cells #[.int .u8 r.freq, .int .i64 r.interval, .int .i64 r.count, .int .u8 r.uk, .int .i64 r.us, .slice (a1 4) r.sec.length (c1 4), .slice (a1 5) r.min.length (c1 5), .slice (a1 6) r.hour.length (c1 6), .slice (a1 7) r.day.length (c1 7), .slice (a1 8) r.mday.length (c1 8), .slice (a1 9) r.yday.length (c1 9), .slice (a1 10) r.weekno.length (c1 10), .slice (a1 11) r.month.length (c1 11), .slice (a1 12) r.setpos.length (c1 12), .int .i64 r.wkst] 34) = W0 at *
  have b4 := Lib.hid (Below.next b3.out hB3.out)
  have SL := Lib.hid (fun W (hB : Below w3.heap.size w3 W) => (BX.out W (Below.next hB3.out hB)).2)
  clear y0 x0 x1 x2 x3 x4 x5 x6 x7 x8 x9 x10 x11 x12 x13 x14
  obtain ⟨y0, x0, x1, x2, x3, x4, x5, x6, x7, x8, x9, x10, x11, x12, x13, x14⟩ := BX.out w3 hB3.out
  go_region_held3 (fun w' => w'.cell? ⟨w2.heap.size, 0, none⟩ = some (.int .u8 r.freq) ∧ w'.cell? ⟨w2.heap.size, 1, none⟩ = some (.int .i64 r.interval) ∧ w'.cell? ⟨w2.heap.size, 2, none⟩ = some (.int .i64 r.count) ∧ w'.cell? ⟨w2.heap.size, 3, none⟩ = some (.int .u8 r.uk) ∧ w'.cell? ⟨w2.heap.size, 4, none⟩ = some (.int .i64 r.us) ∧ w'.cell? ⟨w2.heap.size, 5, none⟩ = some (.slice (a1 4) r.sec.length (c1 4)) ∧ w'.cell? ⟨w2.heap.size, 6, none⟩ = some (.slice (a1 5) r.min.length (c1 5)) ∧ w'.cell? ⟨w2.heap.size, 7, none⟩ = some (.slice (a1 6) r.hour.length (c1 6)) ∧ w'.cell? ⟨w2.heap.size, 8, none⟩ = some (.slice (a1 7) r.day.length (c1 7)) ∧ w'.cell? ⟨w2.heap.size, 9, none⟩ = some (.slice (a1 8) r.mday.length (c1 8)) ∧ w'.cell? ⟨w2.heap.size, 10, none⟩ = some (.slice (a1 9) r.yday.length (c1 9)) ∧ w'.cell? ⟨w2.heap.size, 11, none⟩ = some (.slice (a1 10) r.weekno.length (c1 10)) ∧ w'.cell? ⟨w2.heap.size, 12, none⟩ = some (.slice (a1 11) r.month.length (c1 11)) ∧ w'.cell? ⟨w2.heap.size, 13, none⟩ = some (.slice (a1 12) r.setpos.length (c1 12)) ∧ w'.cell? ⟨w2.heap.size, 14, none⟩ = some (.int .i64 r.wkst)) (first | go_keep | exact SL.out _ (by (repeat' (first | assumption | exact Below.refl _ _ | apply Below.next_alloc | apply Below.drew | (apply Below.next; rotate_left; assumption)))))
    (first
      | (go_at_call 10; (with_reducible refine (FA.out a1 c1 _ (HT.out _ (Below.next b4.out (by (repeat' (first | assumption | exact Below.refl _ _ | apply Below.next_alloc | apply Below.drew | (apply Below.next; rotate_left; assumption)))))) (LX.out _ (Below.next hB3.out (by (repeat' (first | assumption | exact Below.refl _ _ | apply Below.next_alloc | apply Below.drew | (apply Below.next; rotate_left; assumption))))))).mono ?_); rintro e y2 ⟨v2, rfl, hO2, hC2⟩; obtain ⟨p2, q2, hv2⟩ := OwnI.slice hO2; subst hv2; have hI2 := Lib.hid hO2.ints)
      | (go_at_call 13; (with_reducible refine (FN.out _ _ _ (hI2.out.below (by (repeat' (first | assumption | exact Below.refl _ _ | apply Below.next_alloc | apply Below.drew | (apply Below.next; rotate_left; assumption)))))).mono ?_); rintro e y3 ⟨rfl, rfl⟩)
      | (go_at_call 16; (with_reducible refine (FD.out a1 c1 _ (HT.out _ (Below.next b4.out (by (repeat' (first | assumption | exact Below.refl _ _ | apply Below.next_alloc | apply Below.drew | (apply Below.next; rotate_left; assumption)))))) (LX.out _ (Below.next hB3.out (by (repeat' (first | assumption | exact Below.refl _ _ | apply Below.next_alloc | apply Below.drew | (apply Below.next; rotate_left; assumption))))))).mono ?_); rintro e y4 ⟨rfl, hC4⟩)
      | (go_at_call 17; (with_reducible refine (FM.out a1 c1 _ (LX.out _ (Below.next hB3.out (by (repeat' (first | assumption | exact Below.refl _ _ | apply Below.next_alloc | apply Below.drew | (apply Below.next; rotate_left; assumption))))))).mono ?_); rintro e y5 ⟨rfl, hC5⟩)
      | (go_at_call 7; (with_reducible refine (AW.out _ (Below.next b4.out (by (repeat' (first | assumption | exact Below.refl _ _ | apply Below.next_alloc | apply Below.drew | (apply Below.next; rotate_left; assumption)))))).mono ?_); rintro e y6 ⟨rfl, hC6⟩))
  go_wp2
  go_ret
  exact ⟨rfl, Below.next b4.out (by (repeat' (first | assumption | exact Below.refl _ _ | apply Below.next_alloc | apply Below.drew | (apply Below.next; rotate_left; assumption))))⟩
end Go.Proofs.YtkbohijlhhpfbaaDoor.Xp

/- The walk of the law ExpandMember (printed by gen_laws.py). -/
namespace Go.Proofs.YtkbohijlhhpfbaaDoor.Xp
open Go.RowKit Ru Ut Cw Ra
set_option maxHeartbeats 16000000 in
set_option maxRecDepth 100000 in
theorem lmem_f (w : World) (r : R) (sv : Nat → Value) (st n0 : Int) (hT : Tab w) (s0 : 0 ≤ st) (s1 : st ≤ 18446744073709551615) (u0 : 0 ≤ n0) (u1 : n0 ≤ 18446744073709551615) (hL : Lists w r sv) (hf : 0 ≤ r.freq ∧ 0 ≤ r.uk ∧ r.uk ≤ 255) (hx : ∀ q, 4 ≤ q → q ≤ 12 → q ≠ 7 → ∀ x ∈ lst r q, (Lit.int .i64 x).wf = true) (hn : ∀ q, 4 ≤ q → q ≤ 12 → q ≠ 7 → (lst r q).length ≤ 9223372036854775807) (hn7 : r.day.length ≤ 9223372036854775807) (hsm : smallR r = true) (hg : costE r (st % 315537897600) (Pd.index r.freq r.wkst (n0 % 315537897600)) ≤ 4000) (h1 : Dy.passes r (st % 315537897600) (n0 % 315537897600 / 86400) = false) :
    Calls Tryd.prog 5 #[ruleV r sv, .int .u64 st, .int .u64 n0] w fun e w' => e = .returned (.bool true) ∧ Below w.heap.size w w' := by
  have FS : ∀ W, Below w.heap.size w W → Calls Tryd.prog 6 #[ruleV r sv] W fun e w' => e = .returned (.bool true) ∧ Below W.heap.size W w' := fun W hB => by
    have h := small_any W r sv (hL.later hB) hn hn7
    rwa [hsm] at h
  have hS := short_small hsm
  have hW : Wide r := ⟨hS, hf, hx⟩
  have FO : ∀ W, Below w.heap.size w W → Calls Tryd.prog 8 #[ruleV r sv] W (GivesQ W r) := fun W hB => (own_any W r sv (hL.later hB) hS).mono fun e w' h => givesQ h
  have AW := Lib.hid (fun W (hB : Below w.heap.size w W) => xawake_any W (hT.later hB))
  have RX := fun W => @Tm.rboxT w r sv 27 W
  have FI : ∀ W, Below w.heap.size w W → Calls Tryd.prog 9 #[.int .u8 r.freq, .int .i64 r.wkst, .int .i64 (n0 % 315537897600)] W fun e w' => e = .returned (.int .i64 (Pd.index r.freq r.wkst (n0 % 315537897600))) ∧ W = w' := fun W hB => index_any _ _ _ W (hT.later hB) hf.1
  have s2 : 0 ≤ st % 315537897600 ∧ st % 315537897600 ≤ 315537897599 := by omega
  have t2 : 0 ≤ n0 % 315537897600 ∧ n0 % 315537897600 ≤ 315537897599 := by omega
  have f0 := hf.1
  obtain ⟨i, hi⟩ : ∃ i, i = Pd.index r.freq r.wkst (n0 % 315537897600) := ⟨_, rfl⟩
  rw [← hi] at FI
  have HT := Lib.hid (fun W (hB : Below w.heap.size w W) => hT.later hB)
  have FT := Lib.hid (fun a1 c1 W hT hL => qCost hW (a := a1) (c := c1) (W := W) hT hL (st % 315537897600) i)
  have FA := Lib.hid (fun a1 c1 W hT hL => qAll hW (a := a1) (c := c1) (W := W) hT hL (st % 315537897600) i)
  have FD := Lib.hid (fun a1 c1 W hT hL => by have := qDay hW (a := a1) (c := c1) (W := W) hT hL (st % 315537897600) (n0 % 315537897600 / 86400) (by omega); rwa [h1] at this)
  rw [← hi] at hg
  have hml : decide (n0 % 315537897600 ∈ allE r (st % 315537897600) i) = false := by rw [member_law f0 s2.1 s2.2 t2.1 t2.2 hi hg, h1]; exact Bool.false_and _
  have FN := Lib.hid (fun W a c (h : Ints W (.slice a (allE r (st % 315537897600) i).length c) (allE r (st % 315537897600) i)) => by have := in_any (n0 % 315537897600) h (by have := allE_len r (st % 315537897600) i; omega); rwa [hml] at this)
  clear hml h1
  unfold ruleV ruleC at *
  replace FS := Lib.hid FS
  replace FO := Lib.hid FO
  replace FI := Lib.hid FI
  replace RX := Lib.hid RX
  clear hL hn hn7 hx hf hS hT
  generalize hss : st % 315537897600 = s at *
  generalize htt : n0 % 315537897600 = t at *
  replace hi := Lib.hid hi
  generalize costE r s i = C at *
  generalize allE r s i = l at *
  have hq := show IntKind.i64.wrap (t.tdiv 86400) = t / 86400 from Go.IntWalk.i64_quo _ _ (by omega)
  have hm := show t.tmod 86400 = t % 86400 from Int.tmod_eq_emod_of_nonneg (by omega)
  go_enter Tryd.func5, Tryd.ntmps5
  go_wp2_with (first
    | (go_at_call 6; (with_reducible refine (FS.out _ (by (repeat' (first | assumption | exact Below.refl _ _ | apply Below.next_alloc | apply Below.drew | (apply Below.next; rotate_left; assumption))))).mono ?_); rintro e w1 ⟨rfl, hB1⟩; have b1 := Lib.hid (show Below w.heap.size w w1 from Below.next_allocs' hB1); obtain ⟨k, k0, k1, k2, k3, k4, k5, k6, k7, k8, k9, k10, k11, k12, k13, k14⟩ := RX.out w1 hB1; clear hB1)
    | (go_at_call 8; (with_reducible refine (FO.out _ b1.out).mono ?_); rintro e w2 ⟨a1, c1, rfl, hL2, hB2⟩; replace hL2 := Lib.hid hL2; clear k k0 k1 k2 k3 k4 k5 k6 k7 k8 k9 k10 k11 k12 k13 k14; have b2 := Lib.hid (Below.next b1.out hB2); clear hB2)
    | (go_at_call 9; (with_reducible refine (FI.out _ (Below.next_alloc b2.out _)).mono ?_); rintro e w3 ⟨rfl, rfl⟩)
    | (go_at_call 15; (with_reducible refine (FT.out a1 c1 _ (HT.out _ (Below.next_alloc b2.out _)) (hL2.out.later (Below.next_alloc (Below.refl _ _) _))).mono ?_); rintro e w3 ⟨rfl, hB3⟩; replace hB3 := Lib.hid hB3))
  have BX := Lib.hid (fun W => @qBox r a1 c1 w2 34 W)
  have LX := Lib.hid (fun W (hB : Below (w2.alloc (.cells #[.int .u8 r.freq, .int .i64 r.interval, .int .i64 r.count, .int .u8 r.uk, .int .i64 r.us, .slice (a1 4) r.sec.length (c1 4), .slice (a1 5) r.min.length (c1 5), .slice (a1 6) r.hour.length (c1 6), .slice (a1 7) r.day.length (c1 7), .slice (a1 8) r.mday.length (c1 8), .slice (a1 9) r.yday.length (c1 9), .slice (a1 10) r.weekno.length (c1 10), .slice (a1 11) r.month.length (c1 11), .slice (a1 12) r.setpos.length (c1 12), .int .i64 r.wkst] 34)).heap.size (w2.alloc (.cells #[.int .u8 r.freq, .int .i64 r.interval, .int .i64 r.count, .int .u8 r.uk, .int .i64 r.us, .slice (a1 4) r.sec.length (c1 4), .slice (a1 5) r.min.length (c1 5), .slice (a1 6) r.hour.length (c1 6), .slice (a1 7) r.day.length (c1 7), .slice (a1 8) r.mday.length (c1 8), .slice (a1 9) r.yday.length (c1 9), .slice (a1 10) r.weekno.length (c1 10), .slice (a1 11) r.month.length (c1 11), .slice (a1 12) r.setpos.length (c1 12), .int .i64 r.wkst] 34)) W) => hL2.out.later (Below.next_allocs' hB))
  have LB := Lib.hid (fun W (hB : Below (w2.alloc (.cells #[.int .u8 r.freq, .int .i64 r.interval, .int .i64 r.count, .int .u8 r.uk, .int .i64 r.us, .slice (a1 4) r.sec.length (c1 4), .slice (a1 5) r.min.length (c1 5), .slice (a1 6) r.hour.length (c1 6), .slice (a1 7) r.day.length (c1 7), .slice (a1 8) r.mday.length (c1 8), .slice (a1 9) r.yday.length (c1 9), .slice (a1 10) r.weekno.length (c1 10), .slice (a1 11) r.month.length (c1 11), .slice (a1 12) r.setpos.length (c1 12), .int .i64 r.wkst] 34)).heap.size (w2.alloc (.cells #[.int .u8 r.freq, .int .i64 r.interval, .int .i64 r.count, .int .u8 r.uk, .int .i64 r.us, .slice (a1 4) r.sec.length (c1 4), .slice (a1 5) r.min.length (c1 5), .slice (a1 6) r.hour.length (c1 6), .slice (a1 7) r.day.length (c1 7), .slice (a1 8) r.mday.length (c1 8), .slice (a1 9) r.yday.length (c1 9), .slice (a1 10) r.weekno.length (c1 10), .slice (a1 11) r.month.length (c1 11), .slice (a1 12) r.setpos.length (c1 12), .int .i64 r.wkst] 34)) W) => Below.next_allocs' hB)
  have b3 := Lib.hid (Below.next_alloc b2.out (.cells #[.int .u8 r.freq, .int .i64 r.interval, .int .i64 r.count, .int .u8 r.uk, .int .i64 r.us, .slice (a1 4) r.sec.length (c1 4), .slice (a1 5) r.min.length (c1 5), .slice (a1 6) r.hour.length (c1 6), .slice (a1 7) r.day.length (c1 7), .slice (a1 8) r.mday.length (c1 8), .slice (a1 9) r.yday.length (c1 9), .slice (a1 10) r.weekno.length (c1 10), .slice (a1 11) r.month.length (c1 11), .slice (a1 12) r.setpos.length (c1 12), .int .i64 r.wkst] 34))
  have z3 : w2.heap.size < (w2.alloc (.cells #[.int .u8 r.freq, .int .i64 r.interval, .int .i64 r.count, .int .u8 r.uk, .int .i64 r.us, .slice (a1 4) r.sec.length (c1 4), .slice (a1 5) r.min.length (c1 5), .slice (a1 6) r.hour.length (c1 6), .slice (a1 7) r.day.length (c1 7), .slice (a1 8) r.mday.length (c1 8), .slice (a1 9) r.yday.length (c1 9), .slice (a1 10) r.weekno.length (c1 10), .slice (a1 11) r.month.length (c1 11), .slice (a1 12) r.setpos.length (c1 12), .int .i64 r.wkst] 34)).heap.size := by simp
  obtain ⟨y0, x0, x1, x2, x3, x4, x5, x6, x7, x8, x9, x10, x11, x12, x13, x14⟩ := BX.out _ (Below.refl _ _)
  replace hB3 := Lib.hid hB3.out
  generalize w2.alloc (.cells #[.int .u8 r.freq, .int .i64 r.interval, .int .i64 r.count, .int .u8 r.uk, .int .i64 r.us, .slice (a1 4) r.sec.length (c1 4), .slice (a1 5) r.min.length (c1 5), .slice (a1 6) r.hour.length (c1 6), .slice (a1 7) r.day.length (c1 7), .slice (a1 8) r.mday.length (c1 8), .slice (a1 9) r.yday.length (c1 9), .slice (a1 10) r.weekno.length (c1 10), .slice (a1 11) r.month.length (c1 11), .slice (a1 12) r.setpos.length (c1 12), .int .i64 r.wkst] 34) = W0 at *
  have b4 := Lib.hid (Below.next b3.out hB3.out)
  have SL := Lib.hid (fun W (hB : Below w3.heap.size w3 W) => (BX.out W (Below.next hB3.out hB)).2)
  clear y0 x0 x1 x2 x3 x4 x5 x6 x7 x8 x9 x10 x11 x12 x13 x14
  obtain ⟨y0, x0, x1, x2, x3, x4, x5, x6, x7, x8, x9, x10, x11, x12, x13, x14⟩ := BX.out w3 hB3.out
  refine wp_region_held_drew (S := (fun w' => w'.cell? ⟨w2.heap.size, 0, none⟩ = some (.int .u8 r.freq) ∧ w'.cell? ⟨w2.heap.size, 1, none⟩ = some (.int .i64 r.interval) ∧ w'.cell? ⟨w2.heap.size, 2, none⟩ = some (.int .i64 r.count) ∧ w'.cell? ⟨w2.heap.size, 3, none⟩ = some (.int .u8 r.uk) ∧ w'.cell? ⟨w2.heap.size, 4, none⟩ = some (.int .i64 r.us) ∧ w'.cell? ⟨w2.heap.size, 5, none⟩ = some (.slice (a1 4) r.sec.length (c1 4)) ∧ w'.cell? ⟨w2.heap.size, 6, none⟩ = some (.slice (a1 5) r.min.length (c1 5)) ∧ w'.cell? ⟨w2.heap.size, 7, none⟩ = some (.slice (a1 6) r.hour.length (c1 6)) ∧ w'.cell? ⟨w2.heap.size, 8, none⟩ = some (.slice (a1 7) r.day.length (c1 7)) ∧ w'.cell? ⟨w2.heap.size, 9, none⟩ = some (.slice (a1 8) r.mday.length (c1 8)) ∧ w'.cell? ⟨w2.heap.size, 10, none⟩ = some (.slice (a1 9) r.yday.length (c1 9)) ∧ w'.cell? ⟨w2.heap.size, 11, none⟩ = some (.slice (a1 10) r.weekno.length (c1 10)) ∧ w'.cell? ⟨w2.heap.size, 12, none⟩ = some (.slice (a1 11) r.month.length (c1 11)) ∧ w'.cell? ⟨w2.heap.size, 13, none⟩ = some (.slice (a1 12) r.setpos.length (c1 12)) ∧ w'.cell? ⟨w2.heap.size, 14, none⟩ = some (.int .i64 r.wkst))) (by kernel_rfl) ?_ (fun hHeld => ?_)
  · exact SL.out _ (by (repeat' (first | assumption | exact Below.refl _ _ | apply Below.next_alloc | apply Below.drew | (apply Below.next; rotate_left; assumption))))
  refine wpAnyH_take (i := 0) (v := ?_) rfl (by kernel_rfl) (by kernel_rfl) (by kernel_rfl) (fun _ _ _ h => h) (Or.inl ⟨by rfl, ?_⟩) hHeld ?_
  rotate_left
  · intro w hSw
    simp only [List.getElem_toArray, List.getElem_cons_zero]
    (try dsimp only at hSw)
    go_simp
    (try with_reducible rfl)
  simp only [Act.put, List.getElem_toArray, List.getElem_cons_zero, List.setIfInBounds_toArray, List.set_cons_zero, List.set_cons_succ]
  refine wpAnyH_take (i := 1) (v := ?_) rfl (by kernel_rfl) (by kernel_rfl) (by kernel_rfl) (fun _ _ _ h => h) (Or.inl ⟨by rfl, ?_⟩) hHeld ?_
  rotate_left
  · intro w hSw
    simp only [List.getElem_toArray, List.getElem_cons_zero, List.getElem_cons_succ]
    (try dsimp only at hSw)
    go_simp
    (try with_reducible rfl)
  simp only [Act.put, List.getElem_toArray, List.getElem_cons_zero, List.getElem_cons_succ, List.setIfInBounds_toArray, List.set_cons_zero, List.set_cons_succ]
  refine wpAnyH_take (i := 2) (v := ?_) rfl (by kernel_rfl) (by kernel_rfl) (by kernel_rfl) (fun _ _ _ h => h) (Or.inl ⟨by rfl, ?_⟩) hHeld ?_
  rotate_left
  · intro w hSw
    simp only [List.getElem_toArray, List.getElem_cons_zero, List.getElem_cons_succ]
    (try dsimp only at hSw)
    go_simp
    (try with_reducible rfl)
  simp only [Act.put, List.getElem_toArray, List.getElem_cons_zero, List.getElem_cons_succ, List.setIfInBounds_toArray, List.set_cons_zero, List.set_cons_succ]
  refine wpAnyH_take (i := 4) (v := ?_) rfl (by kernel_rfl) (by kernel_rfl) (by kernel_rfl) (fun _ _ _ h => h) (Or.inl ⟨by rfl, ?_⟩) hHeld ?_
  rotate_left
  · intro w hSw
    simp only [List.getElem_toArray, List.getElem_cons_zero, List.getElem_cons_succ]
    (try dsimp only at hSw)
    go_simp
    (try with_reducible rfl)
  simp only [Act.put, List.getElem_toArray, List.getElem_cons_zero, List.getElem_cons_succ, List.setIfInBounds_toArray, List.set_cons_zero, List.set_cons_succ]
  refine wpAnyH_take (i := 6) (v := ?_) rfl (by kernel_rfl) (by kernel_rfl) (by kernel_rfl) (fun _ _ _ h => h) (Or.inl ⟨by rfl, ?_⟩) hHeld ?_
  rotate_left
  · intro w hSw
    simp only [List.getElem_toArray, List.getElem_cons_zero, List.getElem_cons_succ]
    (try dsimp only at hSw)
    go_simp
    (try with_reducible rfl)
  simp only [Act.put, List.getElem_toArray, List.getElem_cons_zero, List.getElem_cons_succ, List.setIfInBounds_toArray, List.set_cons_zero, List.set_cons_succ]
  refine wpAnyH_take (i := 7) (v := ?_) rfl (by kernel_rfl) (by kernel_rfl) (by kernel_rfl) (fun _ _ _ h => h) (Or.inl ⟨by rfl, ?_⟩) hHeld ?_
  rotate_left
  · intro w hSw
    simp only [List.getElem_toArray, List.getElem_cons_zero, List.getElem_cons_succ]
    (try dsimp only at hSw)
    go_simp
    (try with_reducible rfl)
  simp only [Act.put, List.getElem_toArray, List.getElem_cons_zero, List.getElem_cons_succ, List.setIfInBounds_toArray, List.set_cons_zero, List.set_cons_succ]
  refine wpAnyH_take (i := 8) (v := ?_) rfl (by kernel_rfl) (by kernel_rfl) (by kernel_rfl) (fun _ _ _ h => h) (Or.inl ⟨by rfl, ?_⟩) hHeld ?_
  rotate_left
  · intro w hSw
    simp only [List.getElem_toArray, List.getElem_cons_zero, List.getElem_cons_succ]
    (try dsimp only at hSw)
    go_simp
    (try with_reducible rfl)
  simp only [Act.put, List.getElem_toArray, List.getElem_cons_zero, List.getElem_cons_succ, List.setIfInBounds_toArray, List.set_cons_zero, List.set_cons_succ]
  refine wpAnyH_take (i := 9) (v := ?_) rfl (by kernel_rfl) (by kernel_rfl) (by kernel_rfl) (fun _ _ _ h => h) (Or.inl ⟨by rfl, ?_⟩) hHeld ?_
  rotate_left
  · intro w hSw
    simp only [List.getElem_toArray, List.getElem_cons_zero, List.getElem_cons_succ]
    (try dsimp only at hSw)
    go_simp
    (try with_reducible rfl)
  simp only [Act.put, List.getElem_toArray, List.getElem_cons_zero, List.getElem_cons_succ, List.setIfInBounds_toArray, List.set_cons_zero, List.set_cons_succ]
  refine wpAnyH_ready (rs := [3]) (by kernel_rfl) (by simp) ?_
  refine AllReadyH.cons (o := _) rfl (fun K hK => ?_) AllReadyH.nil
  simp only [List.getElem_toArray, List.getElem_cons_zero, List.getElem_cons_succ]
  rw [if_pos (by rfl)]
  go_simp
  (go_at_call 10; (with_reducible refine (FA.out a1 c1 _ (HT.out _ (Below.next b4.out (by (repeat' (first | assumption | exact Below.refl _ _ | apply Below.next_alloc | apply Below.drew | (apply Below.next; rotate_left; assumption)))))) (LX.out _ (Below.next hB3.out (by (repeat' (first | assumption | exact Below.refl _ _ | apply Below.next_alloc | apply Below.drew | (apply Below.next; rotate_left; assumption))))))).mono ?_); rintro e y2 ⟨v2, rfl, hO2, hC2⟩; obtain ⟨p2, q2, hv2⟩ := OwnI.slice hO2; subst hv2; have hI2 := Lib.hid hO2.ints)
  refine hK.out _ _ ?_ (fun hHeld => ?_)
  · exact SL.out _ (by (repeat' (first | assumption | exact Below.refl _ _ | apply Below.next_alloc | apply Below.drew | (apply Below.next; rotate_left; assumption))))
  clear hK K
  refine wpAnyH_ready (rs := [5]) (by kernel_rfl) (by simp) ?_
  refine AllReadyH.cons (o := _) rfl (fun K hK => ?_) AllReadyH.nil
  simp only [List.getElem_toArray, List.getElem_cons_zero, List.getElem_cons_succ]
  rw [if_pos (by rfl)]
  go_simp
  (go_at_call 13; (with_reducible refine (FN.out _ _ _ (hI2.out.below (by (repeat' (first | assumption | exact Below.refl _ _ | apply Below.next_alloc | apply Below.drew | (apply Below.next; rotate_left; assumption)))))).mono ?_); rintro e y3 ⟨rfl, rfl⟩)
  refine hK.out _ _ ?_ (fun hHeld => ?_)
  · exact SL.out _ (by (repeat' (first | assumption | exact Below.refl _ _ | apply Below.next_alloc | apply Below.drew | (apply Below.next; rotate_left; assumption))))
  clear hK K
  refine wpAnyH_ready (rs := [10]) (by kernel_rfl) (by simp) ?_
  refine AllReadyH.cons (o := _) rfl (fun K hK => ?_) AllReadyH.nil
  simp only [List.getElem_toArray, List.getElem_cons_zero, List.getElem_cons_succ]
  rw [if_pos (by rfl)]
  go_simp
  (go_at_call 16; (with_reducible refine (FD.out a1 c1 _ (HT.out _ (Below.next b4.out (by (repeat' (first | assumption | exact Below.refl _ _ | apply Below.next_alloc | apply Below.drew | (apply Below.next; rotate_left; assumption)))))) (LX.out _ (Below.next hB3.out (by (repeat' (first | assumption | exact Below.refl _ _ | apply Below.next_alloc | apply Below.drew | (apply Below.next; rotate_left; assumption))))))).mono ?_); rintro e y4 ⟨rfl, hC4⟩)
  refine hK.out _ _ ?_ (fun hHeld => ?_)
  · exact SL.out _ (by (repeat' (first | assumption | exact Below.refl _ _ | apply Below.next_alloc | apply Below.drew | (apply Below.next; rotate_left; assumption))))
  clear hK K
  refine wpAnyH_take (i := 11) (v := ?_) rfl (by kernel_rfl) (by kernel_rfl) (by kernel_rfl) (fun _ _ _ h => h) (Or.inl ⟨by rfl, ?_⟩) hHeld ?_
  rotate_left
  · intro w hSw
    simp only [List.getElem_toArray, List.getElem_cons_zero, List.getElem_cons_succ]
    (try dsimp only at hSw)
    go_simp
    (try with_reducible rfl)
  simp only [Act.put, List.getElem_toArray, List.getElem_cons_zero, List.getElem_cons_succ, List.setIfInBounds_toArray, List.set_cons_zero, List.set_cons_succ]
  refine wpAnyH_take (i := 12) (v := undef) rfl (by kernel_rfl) (by kernel_rfl) (by kernel_rfl) (fun _ _ _ h => h) (Or.inr ⟨rfl, rfl⟩) hHeld ?_
  simp only [Act.put, List.getElem_toArray, List.getElem_cons_zero, List.getElem_cons_succ, List.setIfInBounds_toArray, List.set_cons_zero, List.set_cons_succ]
  refine wpAnyH_take (i := 13) (v := undef) rfl (by kernel_rfl) (by kernel_rfl) (by kernel_rfl) (fun _ _ _ h => h) (Or.inr ⟨rfl, rfl⟩) hHeld ?_
  simp only [Act.put, List.getElem_toArray, List.getElem_cons_zero, List.getElem_cons_succ, List.setIfInBounds_toArray, List.set_cons_zero, List.set_cons_succ]
  refine wpAnyH_take (i := 14) (v := undef) rfl (by kernel_rfl) (by kernel_rfl) (by kernel_rfl) (fun _ _ _ h => h) (Or.inr ⟨rfl, rfl⟩) hHeld ?_
  simp only [Act.put, List.getElem_toArray, List.getElem_cons_zero, List.getElem_cons_succ, List.setIfInBounds_toArray, List.set_cons_zero, List.set_cons_succ]
  refine wpAnyH_take (i := 15) (v := undef) rfl (by kernel_rfl) (by kernel_rfl) (by kernel_rfl) (fun _ _ _ h => h) (Or.inr ⟨rfl, rfl⟩) hHeld ?_
  simp only [Act.put, List.getElem_toArray, List.getElem_cons_zero, List.getElem_cons_succ, List.setIfInBounds_toArray, List.set_cons_zero, List.set_cons_succ]
  refine wpAnyH_take (i := 16) (v := undef) rfl (by kernel_rfl) (by kernel_rfl) (by kernel_rfl) (fun _ _ _ h => h) (Or.inr ⟨rfl, rfl⟩) hHeld ?_
  simp only [Act.put, List.getElem_toArray, List.getElem_cons_zero, List.getElem_cons_succ, List.setIfInBounds_toArray, List.set_cons_zero, List.set_cons_succ]
  refine wpAnyH_take (i := 17) (v := ?_) rfl (by kernel_rfl) (by kernel_rfl) (by kernel_rfl) (fun _ _ _ h => h) (Or.inl ⟨by rfl, ?_⟩) hHeld ?_
  rotate_left
  · intro w hSw
    simp only [List.getElem_toArray, List.getElem_cons_zero, List.getElem_cons_succ]
    (try dsimp only at hSw)
    go_simp
    (try with_reducible rfl)
  simp only [Act.put, List.getElem_toArray, List.getElem_cons_zero, List.getElem_cons_succ, List.setIfInBounds_toArray, List.set_cons_zero, List.set_cons_succ]
  refine wpAnyH_take (i := 18) (v := ?_) rfl (by kernel_rfl) (by kernel_rfl) (by kernel_rfl) (fun _ _ _ h => h) (Or.inl ⟨by rfl, ?_⟩) hHeld ?_
  rotate_left
  · intro w hSw
    simp only [List.getElem_toArray, List.getElem_cons_zero, List.getElem_cons_succ]
    (try dsimp only at hSw)
    go_simp
    (try with_reducible rfl)
  simp only [Act.put, List.getElem_toArray, List.getElem_cons_zero, List.getElem_cons_succ, List.setIfInBounds_toArray, List.set_cons_zero, List.set_cons_succ]
  refine wpAnyH_take (i := 19) (v := ?_) rfl (by kernel_rfl) (by kernel_rfl) (by kernel_rfl) (fun _ _ _ h => h) (Or.inl ⟨by rfl, ?_⟩) hHeld ?_
  rotate_left
  · intro w hSw
    simp only [List.getElem_toArray, List.getElem_cons_zero, List.getElem_cons_succ]
    (try dsimp only at hSw)
    go_simp
    (try with_reducible rfl)
  simp only [Act.put, List.getElem_toArray, List.getElem_cons_zero, List.getElem_cons_succ, List.setIfInBounds_toArray, List.set_cons_zero, List.set_cons_succ]
  refine wpAnyH_ready (rs := [20]) (by kernel_rfl) (by simp) ?_
  refine AllReadyH.cons (o := _) rfl (fun K hK => ?_) AllReadyH.nil
  simp only [List.getElem_toArray, List.getElem_cons_zero, List.getElem_cons_succ]
  rw [if_pos (by rfl)]
  go_simp
  (go_at_call 7; (with_reducible refine (AW.out _ (Below.next b4.out (by (repeat' (first | assumption | exact Below.refl _ _ | apply Below.next_alloc | apply Below.drew | (apply Below.next; rotate_left; assumption)))))).mono ?_); rintro e y6 ⟨rfl, hC6⟩)
  refine hK.out _ _ ?_ (fun hHeld => ?_)
  · exact SL.out _ (by (repeat' (first | assumption | exact Below.refl _ _ | apply Below.next_alloc | apply Below.drew | (apply Below.next; rotate_left; assumption))))
  clear hK K
  refine wpAnyH_take (i := 21) (v := ?_) rfl (by kernel_rfl) (by kernel_rfl) (by kernel_rfl) (fun _ _ _ h => h) (Or.inl ⟨by rfl, ?_⟩) hHeld ?_
  rotate_left
  · intro w hSw
    simp only [List.getElem_toArray, List.getElem_cons_zero, List.getElem_cons_succ]
    (try dsimp only at hSw)
    go_simp
    (try with_reducible rfl)
  simp only [Act.put, List.getElem_toArray, List.getElem_cons_zero, List.getElem_cons_succ, List.setIfInBounds_toArray, List.set_cons_zero, List.set_cons_succ]
  refine wpAnyH_take (i := 22) (v := ?_) rfl (by kernel_rfl) (by kernel_rfl) (by kernel_rfl) (fun _ _ _ h => h) (Or.inl ⟨by rfl, ?_⟩) hHeld ?_
  rotate_left
  · intro w hSw
    simp only [List.getElem_toArray, List.getElem_cons_zero, List.getElem_cons_succ]
    (try dsimp only at hSw)
    go_simp
    (try with_reducible rfl)
  simp only [Act.put, List.getElem_toArray, List.getElem_cons_zero, List.getElem_cons_succ, List.setIfInBounds_toArray, List.set_cons_zero, List.set_cons_succ]
  refine wpAnyH_done (by kernel_rfl) ?_ _
  go_wp2
  go_ret
  exact ⟨rfl, Below.next b4.out (by (repeat' (first | assumption | exact Below.refl _ _ | apply Below.next_alloc | apply Below.drew | (apply Below.next; rotate_left; assumption))))⟩
theorem lmem_any (w : World) (r : R) (sv : Nat → Value) (st n0 : Int) (hT : Tab w) (s0 : 0 ≤ st ∧ st ≤ 18446744073709551615) (u0 : 0 ≤ n0 ∧ n0 ≤ 18446744073709551615) (hL : Lists w r sv) (hf : 0 ≤ r.freq ∧ 0 ≤ r.uk ∧ r.uk ≤ 255) (hx : ∀ q, 4 ≤ q → q ≤ 12 → q ≠ 7 → ∀ x ∈ lst r q, (Lit.int .i64 x).wf = true) (hn : ∀ q, 4 ≤ q → q ≤ 12 → q ≠ 7 → (lst r q).length ≤ 9223372036854775807) (hn7 : r.day.length ≤ 9223372036854775807) :
    Calls Tryd.prog 5 #[ruleV r sv, .int .u64 st, .int .u64 n0] w fun e w' => e = .returned (.bool true) ∧ Below w.heap.size w w' := by
  cases h : smallR r
  · exact lmem_no w r sv st n0 hT hL hn hn7 h
  · by_cases hg : 4000 < costE r (st % 315537897600) (Pd.index r.freq r.wkst (n0 % 315537897600))
    · exact lmem_big w r sv st n0 hT s0.1 s0.2 u0.1 u0.2 hL hf hx hn hn7 h hg
    · cases h1 : Dy.passes r (st % 315537897600) (n0 % 315537897600 / 86400)
      · exact lmem_f w r sv st n0 hT s0.1 s0.2 u0.1 u0.2 hL hf hx hn hn7 h (by omega) h1
      · cases h2 : Tm.passT r (st % 315537897600) (n0 % 315537897600 % 86400)
        · exact lmem_tf w r sv st n0 hT s0.1 s0.2 u0.1 u0.2 hL hf hx hn hn7 h (by omega) h1 h2
        · exact lmem_tt w r sv st n0 hT s0.1 s0.2 u0.1 u0.2 hL hf hx hn hn7 h (by omega) h1 h2
end Go.Proofs.YtkbohijlhhpfbaaDoor.Xp

