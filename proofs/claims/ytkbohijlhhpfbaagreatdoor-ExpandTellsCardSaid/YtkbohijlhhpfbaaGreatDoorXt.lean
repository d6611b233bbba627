/- The walk of the law ExpandTells (printed by gen_laws.py). -/
import Derived.Test.YtkbohijlhhpfbaaGreatDoorXh
import Derived.Test.YtkbohijlhhpfbaaGreatDoorXs
import Derived.Deep.RegionHeld3
namespace Go.Proofs.YtkbohijlhhpfbaaGreatDoor.Xp
open Go.RowKit Ru Ut Cw Ra
set_option maxHeartbeats 16000000 in
set_option maxRecDepth 100000 in
theorem ltell_no (w : World) (r : R) (sv : Nat → Value) (s i : Int) (hT : Tab w) (hL : Lists w r sv) (hn : ∀ q, 4 ≤ q → q ≤ 12 → q ≠ 7 → (lst r q).length ≤ 9223372036854775807) (hn7 : r.day.length ≤ 9223372036854775807) (hsm : smallR r = false) :
    Calls Tryz.prog 3 #[ruleV r sv, .int .i64 s, .int .i64 i] w fun e w' => e = .returned (.bool true) ∧ Below w.heap.size w w' := by
  have FS : ∀ W, Below w.heap.size w W → Calls Tryz.prog 9 #[ruleV r sv] W fun e w' => e = .returned (.bool false) ∧ Below W.heap.size W w' := fun W hB => by
    have h := small_any W r sv (hL.later hB) hn hn7
    rwa [hsm] at h
  have AW := Lib.hid (fun W (hB : Below w.heap.size w W) => xawake_any W (hT.later hB))
  clear hL hn hn7 hT
  unfold ruleV ruleC at *
  replace FS := Lib.hid FS
  go_enter Tryz.func3, Tryz.ntmps3
  go_wp2_with (first
    | (go_at_call 9; (with_reducible refine (FS.out _ (by (repeat' (first | assumption | exact Below.refl _ _ | apply Below.next_alloc | apply Below.drew | (apply Below.next; rotate_left; assumption))))).mono ?_); rintro e w1 ⟨rfl, hB1⟩; have b1 := Lib.hid (show Below w.heap.size w w1 from Below.next_allocs' hB1))
    | (go_at_call 10; (with_reducible refine (AW.out _ b1.out).mono ?_); rintro e w2 ⟨rfl, hB2⟩; have b2 := Lib.hid (Below.next b1.out hB2)))
  go_ret
  exact ⟨rfl, b2.out⟩
theorem same_true {w : World} {v u : Value} {l : List Int} (hl : Ints w v l) (hm : Ints w u l) (hn : l.length ≤ 1000000) : Calls Tryz.prog 14 #[v, u] w fun e w' => e = .returned (.bool true) ∧ Below w.heap.size w w' := by
  have h := Da.rSame_any hl hm hn hn
  rwa [decide_eq_true rfl] at h
theorem ofE_len (r : R) (s i : Int) : (ofE r s i).length ≤ 3999 := by
  have h := allE_len r s i
  unfold ofE
  split
  · exact h
  · exact Nat.le_trans (picksTo_len _ _ _) h
set_option maxHeartbeats 16000000 in
set_option maxRecDepth 100000 in
theorem ltell_yes (w : World) (r : R) (sv : Nat → Value) (s i : Int) (hT : Tab w) (hL : Lists w r sv) (hf : 0 ≤ r.freq ∧ 0 ≤ r.uk ∧ r.uk ≤ 255) (hx : ∀ q, 4 ≤ q → q ≤ 12 → q ≠ 7 → ∀ x ∈ lst r q, (Lit.int .i64 x).wf = true) (hn : ∀ q, 4 ≤ q → q ≤ 12 → q ≠ 7 → (lst r q).length ≤ 9223372036854775807) (hn7 : r.day.length ≤ 9223372036854775807) (hsm : smallR r = true) :
    Calls Tryz.prog 3 #[ruleV r sv, .int .i64 s, .int .i64 i] w fun e w' => e = .returned (.bool true) ∧ Below w.heap.size w w' := by
  have FS : ∀ W, Below w.heap.size w W → Calls Tryz.prog 9 #[ruleV r sv] W fun e w' => e = .returned (.bool true) ∧ Below W.heap.size W w' := fun W hB => by
    have h := small_any W r sv (hL.later hB) hn hn7
    rwa [hsm] at h
  have hS := short_small hsm
  have hW : Wide r := ⟨hS, hf, hx⟩
  have FO : ∀ W, Below w.heap.size w W → Calls Tryz.prog 11 #[ruleV r sv] W (GivesQ W r) := fun W hB => (own_any W r sv (hL.later hB) hS).mono fun e w' h => givesQ h
  have AW := Lib.hid (fun W (hB : Below w.heap.size w W) => xawake_any W (hT.later hB))
  have RX := fun W => @Tm.rboxT w r sv 27 W
  have HT := Lib.hid (fun W (hB : Below w.heap.size w W) => hT.later hB)
  have FT := Lib.hid (fun a1 c1 W hT hL => qCost hW (a := a1) (c := c1) (W := W) hT hL s i)
  have FA := Lib.hid (fun a1 c1 W hT hL => qAll hW (a := a1) (c := c1) (W := W) hT hL s i)
  have FF := Lib.hid (fun a1 c1 W hT hL => qOf hW (a := a1) (c := c1) (W := W) hT hL s i)
  have RT : ∀ W, Below w.heap.size w W → Calls Tryz.prog 13 #[ruleV r sv, .int .i64 s, .int .i64 i] W fun e w' => e = .returned (.int .i64 (costE r s i)) ∧ Below W.heap.size W w' := fun W hB => rcost_any W r sv s i (hL.later hB) hW
  have RA : ∀ W, Below w.heap.size w W → Calls Tryz.prog 16 #[ruleV r sv, .int .i64 s, .int .i64 i] W (Gives W (allE r s i)) := fun W hB => rall_any W r sv s i (hL.later hB) hW
  have RF : ∀ W, Below w.heap.size w W → Calls Tryz.prog 18 #[ruleV r sv, .int .i64 s, .int .i64 i] W (Gives W (ofE r s i)) := fun W hB => rofE_any W r sv s i (hL.later hB) hW
  have S1 := Lib.hid (fun W v u (h1 : Ints W v (allE r s i)) (h2 : Ints W u (allE r s i)) => same_true h1 h2 (by have := allE_len r s i; omega))
  have S2 := Lib.hid (fun W v u (h1 : Ints W v (ofE r s i)) (h2 : Ints W u (ofE r s i)) => same_true h1 h2 (by have := ofE_len r s i; omega))
  unfold ruleV ruleC at *
  replace FS := Lib.hid FS
  replace FO := Lib.hid FO
  replace RX := Lib.hid RX
  replace RT := Lib.hid RT
  replace RA := Lib.hid RA
  replace RF := Lib.hid RF
  clear hL hn hn7 hx hf hS hT hW
  generalize costE r s i = C at *
  go_enter Tryz.func3, Tryz.ntmps3
  go_wp2_with (first
    | (go_at_call 9; (with_reducible refine (FS.out _ (by (repeat' (first | assumption | exact Below.refl _ _ | apply Below.next_alloc | apply Below.drew | (apply Below.next; rotate_left; assumption))))).mono ?_); rintro e w1 ⟨rfl, hB1⟩; have b1 := Lib.hid (show Below w.heap.size w w1 from Below.next_allocs' hB1); obtain ⟨k, k0, k1, k2, k3, k4, k5, k6, k7, k8, k9, k10, k11, k12, k13, k14⟩ := RX.out w1 hB1; replace hB1 := Lib.hid hB1)
    | (go_at_call 11; (with_reducible refine (FO.out _ b1.out).mono ?_); rintro e w2 ⟨a1, c1, rfl, hL2, hB2⟩; replace hL2 := Lib.hid hL2; clear k k0 k1 k2 k3 k4 k5 k6 k7 k8 k9 k10 k11 k12 k13 k14; have b2 := Lib.hid (Below.next b1.out hB2); have bx := Lib.hid (Below.next hB1.out hB2); clear hB2))
  have BX := Lib.hid (fun W => @qBox r a1 c1 w2 33 W)
  have LX := Lib.hid (fun W (hB : Below (w2.alloc (.cells #[.int .u8 r.freq, .int .i64 r.interval, .int .i64 r.count, .int .u8 r.uk, .int .i64 r.us, .slice (a1 4) r.sec.length (c1 4), .slice (a1 5) r.min.length (c1 5), .slice (a1 6) r.hour.length (c1 6), .slice (a1 7) r.day.length (c1 7), .slice (a1 8) r.mday.length (c1 8), .slice (a1 9) r.yday.length (c1 9), .slice (a1 10) r.weekno.length (c1 10), .slice (a1 11) r.month.length (c1 11), .slice (a1 12) r.setpos.length (c1 12), .int .i64 r.wkst] 33)).heap.size (w2.alloc (.cells #[.int .u8 r.freq, .int .i64 r.interval, .int .i64 r.count, .int .u8 r.uk, .int .i64 r.us, .slice (a1 4) r.sec.length (c1 4), .slice (a1 5) r.min.length (c1 5), .slice (a1 6) r.hour.length (c1 6), .slice (a1 7) r.day.length (c1 7), .slice (a1 8) r.mday.length (c1 8), .slice (a1 9) r.yday.length (c1 9), .slice (a1 10) r.weekno.length (c1 10), .slice (a1 11) r.month.length (c1 11), .slice (a1 12) r.setpos.length (c1 12), .int .i64 r.wkst] 33)) W) => hL2.out.later (Below.next_allocs' hB))
  have LB := Lib.hid (fun W (hB : Below (w2.alloc (.cells #[.int .u8 r.freq, .int .i64 r.interval, .int .i64 r.count, .int .u8 r.uk, .int .i64 r.us, .slice (a1 4) r.sec.length (c1 4), .slice (a1 5) r.min.length (c1 5), .slice (a1 6) r.hour.length (c1 6), .slice (a1 7) r.day.length (c1 7), .slice (a1 8) r.mday.length (c1 8), .slice (a1 9) r.yday.length (c1 9), .slice (a1 10) r.weekno.length (c1 10), .slice (a1 11) r.month.length (c1 11), .slice (a1 12) r.setpos.length (c1 12), .int .i64 r.wkst] 33)).heap.size (w2.alloc (.cells #[.int .u8 r.freq, .int .i64 r.interval, .int .i64 r.count, .int .u8 r.uk, .int .i64 r.us, .slice (a1 4) r.sec.length (c1 4), .slice (a1 5) r.min.length (c1 5), .slice (a1 6) r.hour.length (c1 6), .slice (a1 7) r.day.length (c1 7), .slice (a1 8) r.mday.length (c1 8), .slice (a1 9) r.yday.length (c1 9), .slice (a1 10) r.weekno.length (c1 10), .slice (a1 11) r.month.length (c1 11), .slice (a1 12) r.setpos.length (c1 12), .int .i64 r.wkst] 33)) W) => Below.next_allocs' hB)
  have b3 := Lib.hid (Below.next_alloc b2.out (.cells #[.int .u8 r.freq, .int .i64 r.interval, .int .i64 r.count, .int .u8 r.uk, .int .i64 r.us, .slice (a1 4) r.sec.length (c1 4), .slice (a1 5) r.min.length (c1 5), .slice (a1 6) r.hour.length (c1 6), .slice (a1 7) r.day.length (c1 7), .slice (a1 8) r.mday.length (c1 8), .slice (a1 9) r.yday.length (c1 9), .slice (a1 10) r.weekno.length (c1 10), .slice (a1 11) r.month.length (c1 11), .slice (a1 12) r.setpos.length (c1 12), .int .i64 r.wkst] 33))
  have z3 : w2.heap.size < (w2.alloc (.cells #[.int .u8 r.freq, .int .i64 r.interval, .int .i64 r.count, .int .u8 r.uk, .int .i64 r.us, .slice (a1 4) r.sec.length (c1 4), .slice (a1 5) r.min.length (c1 5), .slice (a1 6) r.hour.length (c1 6), .slice (a1 7) r.day.length (c1 7), .slice (a1 8) r.mday.length (c1 8), .slice (a1 9) r.yday.length (c1 9), .slice (a1 10) r.weekno.length (c1 10), .slice (a1 11) r.month.length (c1 11), .slice (a1 12) r.setpos.length (c1 12), .int .i64 r.wkst] 33)).heap.size := by simp
  obtain ⟨y0, x0, x1, x2, x3, x4, x5, x6, x7, x8, x9, x10, x11, x12, x13, x14⟩ := BX.out _ (Below.refl _ _)
  have RXX := Lib.hid (fun W (hB : Below (w2.alloc (.cells #[.int .u8 r.freq, .int .i64 r.interval, .int .i64 r.count, .int .u8 r.uk, .int .i64 r.us, .slice (a1 4) r.sec.length (c1 4), .slice (a1 5) r.min.length (c1 5), .slice (a1 6) r.hour.length (c1 6), .slice (a1 7) r.day.length (c1 7), .slice (a1 8) r.mday.length (c1 8), .slice (a1 9) r.yday.length (c1 9), .slice (a1 10) r.weekno.length (c1 10), .slice (a1 11) r.month.length (c1 11), .slice (a1 12) r.setpos.length (c1 12), .int .i64 r.wkst] 33)).heap.size (w2.alloc (.cells #[.int .u8 r.freq, .int .i64 r.interval, .int .i64 r.count, .int .u8 r.uk, .int .i64 r.us, .slice (a1 4) r.sec.length (c1 4), .slice (a1 5) r.min.length (c1 5), .slice (a1 6) r.hour.length (c1 6), .slice (a1 7) r.day.length (c1 7), .slice (a1 8) r.mday.length (c1 8), .slice (a1 9) r.yday.length (c1 9), .slice (a1 10) r.weekno.length (c1 10), .slice (a1 11) r.month.length (c1 11), .slice (a1 12) r.setpos.length (c1 12), .int .i64 r.wkst] 33)) W) => RX.out W (Below.next (Below.next_alloc bx.out (.cells #[.int .u8 r.freq, .int .i64 r.interval, .int .i64 r.count, .int .u8 r.uk, .int .i64 r.us, .slice (a1 4) r.sec.length (c1 4), .slice (a1 5) r.min.length (c1 5), .slice (a1 6) r.hour.length (c1 6), .slice (a1 7) r.day.length (c1 7), .slice (a1 8) r.mday.length (c1 8), .slice (a1 9) r.yday.length (c1 9), .slice (a1 10) r.weekno.length (c1 10), .slice (a1 11) r.month.length (c1 11), .slice (a1 12) r.setpos.length (c1 12), .int .i64 r.wkst] 33)) hB))
  generalize w2.alloc (.cells #[.int .u8 r.freq, .int .i64 r.interval, .int .i64 r.count, .int .u8 r.uk, .int .i64 r.us, .slice (a1 4) r.sec.length (c1 4), .slice (a1 5) r.min.length (c1 5), .slice (a1 6) r.hour.length (c1 6), .slice (a1 7) r.day.length (c1 7), .slice (a1 8) r.mday.length (c1 8), .slice (a1 9) r.yday.length (c1 9), .slice (a1 10) r.weekno.length (c1 10), .slice (a1 11) r.month.length (c1 11), .slice (a1 12) r.setpos.length (c1 12), .int .i64 r.wkst] 33) = W0 at *
  have SL := Lib.hid (fun W (hB : Below W0.heap.size W0 W) => (show W.cell? ⟨w2.heap.size, 0, none⟩ = some (.int .u8 r.freq) ∧ W.cell? ⟨w2.heap.size, 1, none⟩ = some (.int .i64 r.interval) ∧ W.cell? ⟨w2.heap.size, 2, none⟩ = some (.int .i64 r.count) ∧ W.cell? ⟨w2.heap.size, 3, none⟩ = some (.int .u8 r.uk) ∧ W.cell? ⟨w2.heap.size, 4, none⟩ = some (.int .i64 r.us) ∧ W.cell? ⟨w2.heap.size, 5, none⟩ = some (.slice (a1 4) r.sec.length (c1 4)) ∧ W.cell? ⟨w2.heap.size, 6, none⟩ = some (.slice (a1 5) r.min.length (c1 5)) ∧ W.cell? ⟨w2.heap.size, 7, none⟩ = some (.slice (a1 6) r.hour.length (c1 6)) ∧ W.cell? ⟨w2.heap.size, 8, none⟩ = some (.slice (a1 7) r.day.length (c1 7)) ∧ W.cell? ⟨w2.heap.size, 9, none⟩ = some (.slice (a1 8) r.mday.length (c1 8)) ∧ W.cell? ⟨w2.heap.size, 10, none⟩ = some (.slice (a1 9) r.yday.length (c1 9)) ∧ W.cell? ⟨w2.heap.size, 11, none⟩ = some (.slice (a1 10) r.weekno.length (c1 10)) ∧ W.cell? ⟨w2.heap.size, 12, none⟩ = some (.slice (a1 11) r.month.length (c1 11)) ∧ W.cell? ⟨w2.heap.size, 13, none⟩ = some (.slice (a1 12) r.setpos.length (c1 12)) ∧ W.cell? ⟨w2.heap.size, 14, none⟩ = some (.int .i64 r.wkst) ∧ W.cell? ⟨w.heap.size, 0, none⟩ = some (.int .u8 r.freq) ∧ W.cell? ⟨w.heap.size, 1, none⟩ = some (.int .i64 r.interval) ∧ W.cell? ⟨w.heap.size, 2, none⟩ = some (.int .i64 r.count) ∧ W.cell? ⟨w.heap.size, 3, none⟩ = some (.int .u8 r.uk) ∧ W.cell? ⟨w.heap.size, 4, none⟩ = some (.int .i64 r.us) ∧ W.cell? ⟨w.heap.size, 5, none⟩ = some (sv 4) ∧ W.cell? ⟨w.heap.size, 6, none⟩ = some (sv 5) ∧ W.cell? ⟨w.heap.size, 7, none⟩ = some (sv 6) ∧ W.cell? ⟨w.heap.size, 8, none⟩ = some (sv 7) ∧ W.cell? ⟨w.heap.size, 9, none⟩ = some (sv 8) ∧ W.cell? ⟨w.heap.size, 10, none⟩ = some (sv 9) ∧ W.cell? ⟨w.heap.size, 11, none⟩ = some (sv 10) ∧ W.cell? ⟨w.heap.size, 12, none⟩ = some (sv 11) ∧ W.cell? ⟨w.heap.size, 13, none⟩ = some (sv 12) ∧ W.cell? ⟨w.heap.size, 14, none⟩ = some (.int .i64 r.wkst) by
    obtain ⟨-, x0, x1, x2, x3, x4, x5, x6, x7, x8, x9, x10, x11, x12, x13, x14⟩ := BX.out W hB
    obtain ⟨-, k0, k1, k2, k3, k4, k5, k6, k7, k8, k9, k10, k11, k12, k13, k14⟩ := RXX.out W hB
    exact ⟨x0, x1, x2, x3, x4, x5, x6, x7, x8, x9, x10, x11, x12, x13, x14, k0, k1, k2, k3, k4, k5, k6, k7, k8, k9, k10, k11, k12, k13, k14⟩))
  obtain ⟨kz, k0, k1, k2, k3, k4, k5, k6, k7, k8, k9, k10, k11, k12, k13, k14⟩ := RXX.out _ (Below.refl _ _)
  clear RX RXX BX FS FO
  as_aux_lemma =>
  go_region_held3 (fun w' => w'.cell? ⟨w2.heap.size, 0, none⟩ = some (.int .u8 r.freq) ∧ w'.cell? ⟨w2.heap.size, 1, none⟩ = some (.int .i64 r.interval) ∧ w'.cell? ⟨w2.heap.size, 2, none⟩ = some (.int .i64 r.count) ∧ w'.cell? ⟨w2.heap.size, 3, none⟩ = some (.int .u8 r.uk) ∧ w'.cell? ⟨w2.heap.size, 4, none⟩ = some (.int .i64 r.us) ∧ w'.cell? ⟨w2.heap.size, 5, none⟩ = some (.slice (a1 4) r.sec.length (c1 4)) ∧ w'.cell? ⟨w2.heap.size, 6, none⟩ = some (.slice (a1 5) r.min.length (c1 5)) ∧ w'.cell? ⟨w2.heap.size, 7, none⟩ = some (.slice (a1 6) r.hour.length (c1 6)) ∧ w'.cell? ⟨w2.heap.size, 8, none⟩ = some (.slice (a1 7) r.day.length (c1 7)) ∧ w'.cell? ⟨w2.heap.size, 9, none⟩ = some (.slice (a1 8) r.mday.length (c1 8)) ∧ w'.cell? ⟨w2.heap.size, 10, none⟩ = some (.slice (a1 9) r.yday.length (c1 9)) ∧ w'.cell? ⟨w2.heap.size, 11, none⟩ = some (.slice (a1 10) r.weekno.length (c1 10)) ∧ w'.cell? ⟨w2.heap.size, 12, none⟩ = some (.slice (a1 11) r.month.length (c1 11)) ∧ w'.cell? ⟨w2.heap.size, 13, none⟩ = some (.slice (a1 12) r.setpos.length (c1 12)) ∧ w'.cell? ⟨w2.heap.size, 14, none⟩ = some (.int .i64 r.wkst) ∧ w'.cell? ⟨w.heap.size, 0, none⟩ = some (.int .u8 r.freq) ∧ w'.cell? ⟨w.heap.size, 1, none⟩ = some (.int .i64 r.interval) ∧ w'.cell? ⟨w.heap.size, 2, none⟩ = some (.int .i64 r.count) ∧ w'.cell? ⟨w.heap.size, 3, none⟩ = some (.int .u8 r.uk) ∧ w'.cell? ⟨w.heap.size, 4, none⟩ = some (.int .i64 r.us) ∧ w'.cell? ⟨w.heap.size, 5, none⟩ = some (sv 4) ∧ w'.cell? ⟨w.heap.size, 6, none⟩ = some (sv 5) ∧ w'.cell? ⟨w.heap.size, 7, none⟩ = some (sv 6) ∧ w'.cell? ⟨w.heap.size, 8, none⟩ = some (sv 7) ∧ w'.cell? ⟨w.heap.size, 9, none⟩ = some (sv 8) ∧ w'.cell? ⟨w.heap.size, 10, none⟩ = some (sv 9) ∧ w'.cell? ⟨w.heap.size, 11, none⟩ = some (sv 10) ∧ w'.cell? ⟨w.heap.size, 12, none⟩ = some (sv 11) ∧ w'.cell? ⟨w.heap.size, 13, none⟩ = some (sv 12) ∧ w'.cell? ⟨w.heap.size, 14, none⟩ = some (.int .i64 r.wkst)) (first | go_keep | exact SL.out _ (by (repeat' (first | assumption | exact Below.refl _ _ | apply Below.next_alloc | apply Below.drew | (apply Below.next; rotate_left; assumption)))))
    (first
      | (go_at_call 12; (with_reducible refine (FT.out a1 c1 _ (HT.out _ (Below.next b3.out (by (repeat' (first | assumption | exact Below.refl _ _ | apply Below.next_alloc | apply Below.drew | (apply Below.next; rotate_left; assumption)))))) (LX.out _ (by (repeat' (first | assumption | exact Below.refl _ _ | apply Below.next_alloc | apply Below.drew | (apply Below.next; rotate_left; assumption)))))).mono ?_); rintro e y1 ⟨rfl, hC1⟩)
      | (go_at_call 13; (with_reducible refine (RT.out _ (Below.next b3.out (by (repeat' (first | assumption | exact Below.refl _ _ | apply Below.next_alloc | apply Below.drew | (apply Below.next; rotate_left; assumption)))))).mono ?_); rintro e y2 ⟨rfl, hC2⟩)
      | (go_at_call 15; (with_reducible refine (FA.out a1 c1 _ (HT.out _ (Below.next b3.out (by (repeat' (first | assumption | exact Below.refl _ _ | apply Below.next_alloc | apply Below.drew | (apply Below.next; rotate_left; assumption)))))) (LX.out _ (by (repeat' (first | assumption | exact Below.refl _ _ | apply Below.next_alloc | apply Below.drew | (apply Below.next; rotate_left; assumption)))))).mono ?_); rintro e y3 ⟨v3, rfl, hO3, hC3⟩; obtain ⟨p3, q3, hv3⟩ := OwnI.slice hO3; subst hv3; have hI3 := Lib.hid hO3.ints)
      | (go_at_call 16; (with_reducible refine (RA.out _ (Below.next b3.out (by (repeat' (first | assumption | exact Below.refl _ _ | apply Below.next_alloc | apply Below.drew | (apply Below.next; rotate_left; assumption)))))).mono ?_); rintro e y4 ⟨v4, rfl, hO4, hC4⟩; obtain ⟨p4, q4, hv4⟩ := OwnI.slice hO4; subst hv4; have hI4 := Lib.hid hO4.ints)
      | (go_at_call 14; (with_reducible refine (S1.out _ _ _ (hI3.out.below (by (repeat' (first | assumption | exact Below.refl _ _ | apply Below.next_alloc | apply Below.drew | (apply Below.next; rotate_left; assumption))))) (hI4.out.below (by (repeat' (first | assumption | exact Below.refl _ _ | apply Below.next_alloc | apply Below.drew | (apply Below.next; rotate_left; assumption)))))).mono ?_); rintro e y5 ⟨rfl, hC5⟩)
      | (go_at_call 17; (with_reducible refine (FF.out a1 c1 _ (HT.out _ (Below.next b3.out (by (repeat' (first | assumption | exact Below.refl _ _ | apply Below.next_alloc | apply Below.drew | (apply Below.next; rotate_left; assumption)))))) (LX.out _ (by (repeat' (first | assumption | exact Below.refl _ _ | apply Below.next_alloc | apply Below.drew | (apply Below.next; rotate_left; assumption)))))).mono ?_); rintro e y6 ⟨v6, rfl, hO6, hC6⟩; obtain ⟨p6, q6, hv6⟩ := OwnI.slice hO6; subst hv6; have hI6 := Lib.hid hO6.ints)
      | (go_at_call 18; (with_reducible refine (RF.out _ (Below.next b3.out (by (repeat' (first | assumption | exact Below.refl _ _ | apply Below.next_alloc | apply Below.drew | (apply Below.next; rotate_left; assumption)))))).mono ?_); rintro e y7 ⟨v7, rfl, hO7, hC7⟩; obtain ⟨p7, q7, hv7⟩ := OwnI.slice hO7; subst hv7; have hI7 := Lib.hid hO7.ints)
      | (go_at_call 14; (with_reducible refine (S2.out _ _ _ (hI6.out.below (by (repeat' (first | assumption | exact Below.refl _ _ | apply Below.next_alloc | apply Below.drew | (apply Below.next; rotate_left; assumption))))) (hI7.out.below (by (repeat' (first | assumption | exact Below.refl _ _ | apply Below.next_alloc | apply Below.drew | (apply Below.next; rotate_left; assumption)))))).mono ?_); rintro e y8 ⟨rfl, hC8⟩)
      | (go_at_call 10; (with_reducible refine (AW.out _ (Below.next b3.out (by (repeat' (first | assumption | exact Below.refl _ _ | apply Below.next_alloc | apply Below.drew | (apply Below.next; rotate_left; assumption)))))).mono ?_); rintro e y9 ⟨rfl, hC9⟩))
  go_wp2
  go_ret
  exact ⟨rfl, Below.next b3.out (by (repeat' (first | assumption | exact Below.refl _ _ | apply Below.next_alloc | apply Below.drew | (apply Below.next; rotate_left; assumption))))⟩
theorem ltell_any (w : World) (r : R) (sv : Nat → Value) (s i : Int) (hT : Tab w) (hL : Lists w r sv) (hf : 0 ≤ r.freq ∧ 0 ≤ r.uk ∧ r.uk ≤ 255) (hx : ∀ q, 4 ≤ q → q ≤ 12 → q ≠ 7 → ∀ x ∈ lst r q, (Lit.int .i64 x).wf = true) (hn : ∀ q, 4 ≤ q → q ≤ 12 → q ≠ 7 → (lst r q).length ≤ 9223372036854775807) (hn7 : r.day.length ≤ 9223372036854775807) :
    Calls Tryz.prog 3 #[ruleV r sv, .int .i64 s, .int .i64 i] w fun e w' => e = .returned (.bool true) ∧ Below w.heap.size w w' := by
  cases h : smallR r
  · exact ltell_no w r sv s i hT hL hn hn7 h
  · exact ltell_yes w r sv s i hT hL hf hx hn hn7 h
end Go.Proofs.YtkbohijlhhpfbaaGreatDoor.Xp
