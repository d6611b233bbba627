/- The walk of the law TimesetEach (printed by gen_teach.py). -/
import Derived.Test.YtndicgfafdhieaaTt
namespace Go.Proofs.Ytndicgfafdhieaa.Tm
open Go.RowKit Ru Ut Cw Ra
/-- a rule by value, its lists as slices -/
def GivesO (w : World) (r : R) (e : Ending) (w' : World) : Prop := ∃ a4 c4 a5 c5 a6 c6 a7 c7 a8 c8 a9 c9 a10 c10 a11 c11 a12 c12, e = .returned (.agg #[.int .u8 r.freq, .int .i64 r.interval, .int .i64 r.count, .int .u8 r.uk, .int .i64 r.us, .slice a4 r.sec.length c4, .slice a5 r.min.length c5, .slice a6 r.hour.length c6, .slice a7 r.day.length c7, .slice a8 r.mday.length c8, .slice a9 r.yday.length c9, .slice a10 r.weekno.length c10, .slice a11 r.month.length c11, .slice a12 r.setpos.length c12, .int .i64 r.wkst]) ∧ Lists w' r (sv9 (.slice a4 r.sec.length c4) (.slice a5 r.min.length c5) (.slice a6 r.hour.length c6) (.slice a7 r.day.length c7) (.slice a8 r.mday.length c8) (.slice a9 r.yday.length c9) (.slice a10 r.weekno.length c10) (.slice a11 r.month.length c11) (.slice a12 r.setpos.length c12)) ∧ Below w.heap.size w w'
theorem days_slice {w : World} {v : Value} {l : List (Int × Int)} (h : Days w v l) : ∃ a c, v = .slice a l.length c := by
  rcases h with ⟨rfl, a, c, rfl, _⟩ | ⟨_, b, o, c, rfl, _⟩
  · exact ⟨a, c, rfl⟩
  · exact ⟨_, c, rfl⟩
theorem givesO {w : World} {r : R} {e : Ending} {w' : World} (h : GivesR w r e w') : GivesO w r e w' := by
  obtain ⟨sv, rfl, hL, hB⟩ := h
  obtain ⟨a4, c4, e4⟩ := ints_slice (hL.1 4 (by decide) (by decide) (by decide))
  obtain ⟨a5, c5, e5⟩ := ints_slice (hL.1 5 (by decide) (by decide) (by decide))
  obtain ⟨a6, c6, e6⟩ := ints_slice (hL.1 6 (by decide) (by decide) (by decide))
  obtain ⟨a7, c7, e7⟩ := days_slice hL.2
  obtain ⟨a8, c8, e8⟩ := ints_slice (hL.1 8 (by decide) (by decide) (by decide))
  obtain ⟨a9, c9, e9⟩ := ints_slice (hL.1 9 (by decide) (by decide) (by decide))
  obtain ⟨a10, c10, e10⟩ := ints_slice (hL.1 10 (by decide) (by decide) (by decide))
  obtain ⟨a11, c11, e11⟩ := ints_slice (hL.1 11 (by decide) (by decide) (by decide))
  obtain ⟨a12, c12, e12⟩ := ints_slice (hL.1 12 (by decide) (by decide) (by decide))
  refine ⟨a4, c4, a5, c5, a6, c6, a7, c7, a8, c8, a9, c9, a10, c10, a11, c11, a12, c12, ?_, ⟨fun q h4 h12 h7 => ?_, ?_⟩, hB⟩
  · unfold ruleV ruleC
    rw [e4, e5, e6, e7, e8, e9, e10, e11, e12]
    rfl
  · have hc : q = 4 ∨ q = 5 ∨ q = 6 ∨ q = 8 ∨ q = 9 ∨ q = 10 ∨ q = 11 ∨ q = 12 := by omega
    have hq := hL.1 q h4 h12 h7
    rcases hc with rfl | rfl | rfl | rfl | rfl | rfl | rfl | rfl
    · rw [e4] at hq; exact hq
    · rw [e5] at hq; exact hq
    · rw [e6] at hq; exact hq
    · rw [e8] at hq; exact hq
    · rw [e9] at hq; exact hq
    · rw [e10] at hq; exact hq
    · rw [e11] at hq; exact hq
    · rw [e12] at hq; exact hq
  · have hq := hL.2
    rw [e7] at hq
    exact hq
theorem oOf {r : R} (hW : Wide r) (s a b : Int) (v4 : Value) (v5 : Value) (v6 : Value) (v7 : Value) (v8 : Value) (v9 : Value) (v10 : Value) (v11 : Value) (v12 : Value) (W : World) (h : Lists W r (sv9 v4 v5 v6 v7 v8 v9 v10 v11 v12)) : Calls Try.prog 12 #[.agg #[.int .u8 r.freq, .int .i64 r.interval, .int .i64 r.count, .int .u8 r.uk, .int .i64 r.us, v4, v5, v6, v7, v8, v9, v10, v11, v12, .int .i64 r.wkst], .int .i64 s, .int .i64 a, .int .i64 b] W (Gives W (secsOf r s a b)) := tof_any W r (sv9 v4 v5 v6 v7 v8 v9 v10 v11 v12) s a b h hW
theorem oCount {r : R} (hW : Wide r) (s a b : Int) (v4 : Value) (v5 : Value) (v6 : Value) (v7 : Value) (v8 : Value) (v9 : Value) (v10 : Value) (v11 : Value) (v12 : Value) (W : World) (h : Lists W r (sv9 v4 v5 v6 v7 v8 v9 v10 v11 v12)) : Calls Try.prog 15 #[.agg #[.int .u8 r.freq, .int .i64 r.interval, .int .i64 r.count, .int .u8 r.uk, .int .i64 r.us, v4, v5, v6, v7, v8, v9, v10, v11, v12, .int .i64 r.wkst], .int .i64 s, .int .i64 a, .int .i64 b] W fun e w' => e = .returned (.int .i64 (secsOf r s a b).length) ∧ Below W.heap.size W w' := tcount_any W r (sv9 v4 v5 v6 v7 v8 v9 v10 v11 v12) s a b h hW
theorem oPasses {r : R} (hW : Wide r) (s t : Int) (v4 : Value) (v5 : Value) (v6 : Value) (v7 : Value) (v8 : Value) (v9 : Value) (v10 : Value) (v11 : Value) (v12 : Value) (W : World) (h : Lists W r (sv9 v4 v5 v6 v7 v8 v9 v10 v11 v12)) : Calls Try.prog 9 #[.agg #[.int .u8 r.freq, .int .i64 r.interval, .int .i64 r.count, .int .u8 r.uk, .int .i64 r.us, v4, v5, v6, v7, v8, v9, v10, v11, v12, .int .i64 r.wkst], .int .i64 s, .int .i64 t] W fun e w' => e = .returned (.bool (passT r s t)) ∧ Below W.heap.size W w' := tpasses_any W r (sv9 v4 v5 v6 v7 v8 v9 v10 v11 v12) s t h hW
theorem oBox (w : World) (r : R) (v4 : Value) (v5 : Value) (v6 : Value) (v7 : Value) (v8 : Value) (v9 : Value) (v10 : Value) (v11 : Value) (v12 : Value) (t : TypeId) {W : World} (hB : Below (w.alloc (.cells (ruleC r (sv9 v4 v5 v6 v7 v8 v9 v10 v11 v12)) t)).heap.size (w.alloc (.cells (ruleC r (sv9 v4 v5 v6 v7 v8 v9 v10 v11 v12)) t)) W) : w.heap.size < W.heap.size ∧ W.cell? ⟨w.heap.size, 0, none⟩ = some (.int .u8 r.freq) ∧ W.cell? ⟨w.heap.size, 1, none⟩ = some (.int .i64 r.interval) ∧ W.cell? ⟨w.heap.size, 2, none⟩ = some (.int .i64 r.count) ∧ W.cell? ⟨w.heap.size, 3, none⟩ = some (.int .u8 r.uk) ∧ W.cell? ⟨w.heap.size, 4, none⟩ = some (.int .i64 r.us) ∧ W.cell? ⟨w.heap.size, 5, none⟩ = some v4 ∧ W.cell? ⟨w.heap.size, 6, none⟩ = some v5 ∧ W.cell? ⟨w.heap.size, 7, none⟩ = some v6 ∧ W.cell? ⟨w.heap.size, 8, none⟩ = some v7 ∧ W.cell? ⟨w.heap.size, 9, none⟩ = some v8 ∧ W.cell? ⟨w.heap.size, 10, none⟩ = some v9 ∧ W.cell? ⟨w.heap.size, 11, none⟩ = some v10 ∧ W.cell? ⟨w.heap.size, 12, none⟩ = some v11 ∧ W.cell? ⟨w.heap.size, 13, none⟩ = some v12 ∧ W.cell? ⟨w.heap.size, 14, none⟩ = some (.int .i64 r.wkst) := rboxT w r (sv9 v4 v5 v6 v7 v8 v9 v10 v11 v12) t hB
set_option maxHeartbeats 16000000 in
set_option maxRecDepth 100000 in
theorem leach_no (w : World) (r : R) (sv : Nat → Value) (st n0 n1 : Int) (hL : Lists w r sv) (hn : ∀ q, 4 ≤ q → q ≤ 12 → q ≠ 7 → (lst r q).length ≤ 9223372036854775807) (hn7 : r.day.length ≤ 9223372036854775807) (hsm : smallR r = false) :
    Calls Try.prog 5 #[ruleV r sv, .int .u64 st, .agg #[.int .u32 n0, .int .u32 n1]] w fun e w' => e = .returned (.bool true) ∧ Below w.heap.size w w' := by
  have FS : ∀ W, Below w.heap.size w W → Calls Try.prog 7 #[ruleV r sv] W fun e w' => e = .returned (.bool false) ∧ Below W.heap.size W w' := fun W hB => by
    have h := small_any W r sv (hL.later hB) hn hn7
    rwa [hsm] at h
  have AW := Lib.hid (fun W => tawake_any W)
  clear hL hn hn7
  unfold ruleV ruleC at *
  replace FS := Lib.hid FS
  go_enter Try.func5, Try.ntmps5
  go_wp2_with (first
    | (go_at_call 7; (with_reducible refine (FS.out _ (by (repeat' (first | assumption | exact Below.refl _ _ | apply Below.next_alloc | apply Below.drew | (apply Below.next; rotate_left; assumption))))).mono ?_); rintro e w1 ⟨rfl, hB1⟩; have b1 := Lib.hid (show Below w.heap.size w w1 from Below.next_allocs' (Below.next_allocs'' hB1)))
    | (go_at_call 8; (with_reducible refine (AW.out _).mono ?_); rintro e w2 ⟨rfl, hB2⟩; have b2 := Lib.hid (Below.next b1.out hB2)))
  go_ret
  exact ⟨rfl, b2.out⟩
set_option maxHeartbeats 16000000 in
set_option maxRecDepth 100000 in
theorem leach_yes (w : World) (r : R) (sv : Nat → Value) (st n0 n1 : Int) (s0 : 0 ≤ st) (s1 : st ≤ 18446744073709551615) (u0 : 0 ≤ n0) (u1 : n0 ≤ 4294967295) (u2 : 0 ≤ n1) (u3 : n1 ≤ 4294967295) (hL : Lists w r sv) (hf : 0 ≤ r.freq ∧ 0 ≤ r.uk ∧ r.uk ≤ 255) (hx : ∀ q, 4 ≤ q → q ≤ 12 → q ≠ 7 → ∀ x ∈ lst r q, (Lit.int .i64 x).wf = true) (hn : ∀ q, 4 ≤ q → q ≤ 12 → q ≠ 7 → (lst r q).length ≤ 9223372036854775807) (hn7 : r.day.length ≤ 9223372036854775807) (hsm : smallR r = true) :
    Calls Try.prog 5 #[ruleV r sv, .int .u64 st, .agg #[.int .u32 n0, .int .u32 n1]] w fun e w' => e = .returned (.bool true) ∧ Below w.heap.size w w' := by
  have FS : ∀ W, Below w.heap.size w W → Calls Try.prog 7 #[ruleV r sv] W fun e w' => e = .returned (.bool true) ∧ Below W.heap.size W w' := fun W hB => by
    have h := small_any W r sv (hL.later hB) hn hn7
    rwa [hsm] at h
  have hS := short_small hsm
  have hW : Wide r := ⟨hS, hf, hx⟩
  have FO : ∀ W, Below w.heap.size w W → Calls Try.prog 10 #[ruleV r sv] W (GivesO W r) := fun W hB => (own_any W r sv (hL.later hB) hS).mono fun e w' h => givesO h
  have AW := Lib.hid (fun W => tawake_any W)
  have FP := Lib.hid (fun t => oPasses hW (st % 315537897600) t)
  have FF := Lib.hid (fun a b => oOf hW (st % 315537897600) a b)
  have X0 := BoxR.new w r sv 27
  clear hL hn hn7 hx hf hW hS
  unfold ruleV at FS FO ⊢
  unfold ruleC at FS FO X0 ⊢
  replace FS := Lib.hid FS
  replace FO := Lib.hid FO
  replace X0 := Lib.hid X0
  go_enter Try.func5, Try.ntmps5
  go_wp2_with (first
    | (go_at_call 7; (with_reducible refine (FS.out _ (by (repeat' (first | assumption | exact Below.refl _ _ | apply Below.next_alloc | apply Below.drew | (apply Below.next; rotate_left; assumption))))).mono ?_); rintro e w1 ⟨rfl, hB1⟩; have b1 := Lib.hid (show Below w.heap.size w w1 from Below.next_allocs' (Below.next_allocs'' hB1)); obtain ⟨k0, k1, k2, k3, k4, k5, k6, k7, k8, k9, k10, k11, k12, k13, k14⟩ := (kk_two (A := #[.int .u32 n0, .int .u32 n1]) (T := 45) X0.out (by simp)).keep (by simp; omega) hB1; have z0 := two_cell hB1 0 rfl; have z1 := two_cell hB1 1 rfl; have q2 := Lib.hid (size2 hB1); clear hB1)
    | (go_at_call 10; (with_reducible refine (FO.out _ b1.out).mono ?_); rintro e w2 ⟨a4, c4, a5, c5, a6, c6, a7, c7, a8, c8, a9, c9, a10, c10, a11, c11, a12, c12, rfl, hL2, hB2⟩; replace z0 := (hB2.cell (p := ⟨w.heap.size + 1, 0, none⟩) q2.out).trans z0; replace z1 := (hB2.cell (p := ⟨w.heap.size + 1, 1, none⟩) q2.out).trans z1; clear k0 k1 k2 k3 k4 k5 k6 k7 k8 k9 k10 k11 k12 k13 k14; have b2 := Lib.hid (Below.next b1.out hB2); have hL2 := Lib.hid hL2; have l2 : w.heap.size + 1 < w2.heap.size := Nat.lt_of_lt_of_le q2.out hB2.size; clear hB2)
    | (go_at_call 12; (with_reducible refine (FF.out _ _ (.slice a4 r.sec.length c4) (.slice a5 r.min.length c5) (.slice a6 r.hour.length c6) (.slice a7 r.day.length c7) (.slice a8 r.mday.length c8) (.slice a9 r.yday.length c9) (.slice a10 r.weekno.length c10) (.slice a11 r.month.length c11) (.slice a12 r.setpos.length c12) _ (hL2.out.later (by (repeat' (first | assumption | exact Below.refl _ _ | apply Below.next_alloc | apply Below.drew | (apply Below.next; rotate_left; assumption)))))).mono ?_); rintro e w3 ⟨v3, rfl, hO3, hB3⟩))
  have hA0 : 0 ≤ n0 % 86400 ∧ n0 % 86400 ≤ 86400 := by omega
  have hAB : n0 % 86400 ≤ min 86400 (n0 % 86400 + n1 % 256) ∧ min 86400 (n0 % 86400 + n1 % 256) ≤ 86400 := by omega
  have BX : ∀ W, Below (w2.alloc (.cells #[.int .u8 r.freq, .int .i64 r.interval, .int .i64 r.count, .int .u8 r.uk, .int .i64 r.us, .slice a4 r.sec.length c4, .slice a5 r.min.length c5, .slice a6 r.hour.length c6, .slice a7 r.day.length c7, .slice a8 r.mday.length c8, .slice a9 r.yday.length c9, .slice a10 r.weekno.length c10, .slice a11 r.month.length c11, .slice a12 r.setpos.length c12, .int .i64 r.wkst] 34)).heap.size (w2.alloc (.cells #[.int .u8 r.freq, .int .i64 r.interval, .int .i64 r.count, .int .u8 r.uk, .int .i64 r.us, .slice a4 r.sec.length c4, .slice a5 r.min.length c5, .slice a6 r.hour.length c6, .slice a7 r.day.length c7, .slice a8 r.mday.length c8, .slice a9 r.yday.length c9, .slice a10 r.weekno.length c10, .slice a11 r.month.length c11, .slice a12 r.setpos.length c12, .int .i64 r.wkst] 34)) W → w2.heap.size < W.heap.size ∧ W.cell? ⟨w2.heap.size, 0, none⟩ = some (.int .u8 r.freq) ∧ W.cell? ⟨w2.heap.size, 1, none⟩ = some (.int .i64 r.interval) ∧ W.cell? ⟨w2.heap.size, 2, none⟩ = some (.int .i64 r.count) ∧ W.cell? ⟨w2.heap.size, 3, none⟩ = some (.int .u8 r.uk) ∧ W.cell? ⟨w2.heap.size, 4, none⟩ = some (.int .i64 r.us) ∧ W.cell? ⟨w2.heap.size, 5, none⟩ = some (.slice a4 r.sec.length c4) ∧ W.cell? ⟨w2.heap.size, 6, none⟩ = some (.slice a5 r.min.length c5) ∧ W.cell? ⟨w2.heap.size, 7, none⟩ = some (.slice a6 r.hour.length c6) ∧ W.cell? ⟨w2.heap.size, 8, none⟩ = some (.slice a7 r.day.length c7) ∧ W.cell? ⟨w2.heap.size, 9, none⟩ = some (.slice a8 r.mday.length c8) ∧ W.cell? ⟨w2.heap.size, 10, none⟩ = some (.slice a9 r.yday.length c9) ∧ W.cell? ⟨w2.heap.size, 11, none⟩ = some (.slice a10 r.weekno.length c10) ∧ W.cell? ⟨w2.heap.size, 12, none⟩ = some (.slice a11 r.month.length c11) ∧ W.cell? ⟨w2.heap.size, 13, none⟩ = some (.slice a12 r.setpos.length c12) ∧ W.cell? ⟨w2.heap.size, 14, none⟩ = some (.int .i64 r.wkst) := fun W hB => oBox w2 r (.slice a4 r.sec.length c4) (.slice a5 r.min.length c5) (.slice a6 r.hour.length c6) (.slice a7 r.day.length c7) (.slice a8 r.mday.length c8) (.slice a9 r.yday.length c9) (.slice a10 r.weekno.length c10) (.slice a11 r.month.length c11) (.slice a12 r.setpos.length c12) _ hB
  have b3 := Lib.hid (Below.next (Below.next_alloc b2.out (.cells #[.int .u8 r.freq, .int .i64 r.interval, .int .i64 r.count, .int .u8 r.uk, .int .i64 r.us, .slice a4 r.sec.length c4, .slice a5 r.min.length c5, .slice a6 r.hour.length c6, .slice a7 r.day.length c7, .slice a8 r.mday.length c8, .slice a9 r.yday.length c9, .slice a10 r.weekno.length c10, .slice a11 r.month.length c11, .slice a12 r.setpos.length c12, .int .i64 r.wkst] 34)) hB3)
  have l3 := Lib.hid (hL2.out.later (Below.next_allocs' hB3))
  replace hB3 := Lib.hid hB3
  replace BX := Lib.hid BX
  generalize n0 % 86400 = A at *
  generalize min 86400 (A + n1 % 256) = B at *
  obtain ⟨n, rfl⟩ : ∃ n : Nat, B = A + n := ⟨(B - A).toNat, by omega⟩
  rw [secs_one r hA0.1 hAB.1 hAB.2, show (A + (n : Int) - A).toNat = n by omega] at hO3
  generalize st % 315537897600 = s at *
  obtain ⟨av, cap, rfl⟩ := hO3.slice
  replace hO3 := Lib.hid hO3
  clear FF
  go_loopw [12, 13] (fun kv tv wr => ∃ j : Nat, j ≤ n ∧ kv = .int .i64 (one r s A j).length ∧ tv = .int .i64 (A + j) ∧ Hid (Below w3.heap.size w3 wr)) (fun _ tv _ => (A + n - intOf tv).toNat)
  case atStart => exact ⟨0, by omega, by rw [one_zero]; rfl, by simp, Lib.hid (Below.refl _ _)⟩
  case round =>
    obtain ⟨j, hj, rfl, rfl, hB⟩ := hrel
    by_cases hjn : j < n
    · have hj2 : A + (j : Int) < A + (n : Int) := by omega
      have hlen := Nat.le_trans (one_prefix r s A hj).length_le (by have := secsOf_few r s A (A + n); rw [secs_one r hA0.1 hAB.1 hAB.2, show (A + (n : Int) - A).toNat = n by omega] at this; exact this)
      have l4 := Lib.hid (l3.out.later hB.out)
      obtain ⟨y0, x0, x1, x2, x3, x4, x5, x6, x7, x8, x9, x10, x11, x12, x13, x14⟩ := BX.out wr (Below.next hB3.out hB.out)
      cases gp : passT r s (A + j)
      · have FP2 := Lib.hid (show Calls Try.prog 9 #[.agg #[.int .u8 r.freq, .int .i64 r.interval, .int .i64 r.count, .int .u8 r.uk, .int .i64 r.us, .slice a4 r.sec.length c4, .slice a5 r.min.length c5, .slice a6 r.hour.length c6, .slice a7 r.day.length c7, .slice a8 r.mday.length c8, .slice a9 r.yday.length c9, .slice a10 r.weekno.length c10, .slice a11 r.month.length c11, .slice a12 r.setpos.length c12, .int .i64 r.wkst], .int .i64 s, .int .i64 (A + j)] wr fun e w' => e = .returned (.bool false) ∧ Below wr.heap.size wr w' by have := FP.out (A + j) (.slice a4 r.sec.length c4) (.slice a5 r.min.length c5) (.slice a6 r.hour.length c6) (.slice a7 r.day.length c7) (.slice a8 r.mday.length c8) (.slice a9 r.yday.length c9) (.slice a10 r.weekno.length c10) (.slice a11 r.month.length c11) (.slice a12 r.setpos.length c12) wr l4.out; rwa [gp] at this)
        have hr := Lib.hid (one_no gp)
        clear gp
        go_wp2_with (first | (go_at_call 9; (with_reducible refine FP2.out.mono ?_); rintro e w4 ⟨rfl, hB4⟩))
        go_roundw
        case rel => exact ⟨j + 1, by omega, by rw [hr.out], by go_num, Lib.hid (Below.next hB.out hB4)⟩
        case measure => simp [intOf]; omega
      · have FP2 := Lib.hid (show Calls Try.prog 9 #[.agg #[.int .u8 r.freq, .int .i64 r.interval, .int .i64 r.count, .int .u8 r.uk, .int .i64 r.us, .slice a4 r.sec.length c4, .slice a5 r.min.length c5, .slice a6 r.hour.length c6, .slice a7 r.day.length c7, .slice a8 r.mday.length c8, .slice a9 r.yday.length c9, .slice a10 r.weekno.length c10, .slice a11 r.month.length c11, .slice a12 r.setpos.length c12, .int .i64 r.wkst], .int .i64 s, .int .i64 (A + j)] wr fun e w' => e = .returned (.bool true) ∧ Below wr.heap.size wr w' by have := FP.out (A + j) (.slice a4 r.sec.length c4) (.slice a5 r.min.length c5) (.slice a6 r.hour.length c6) (.slice a7 r.day.length c7) (.slice a8 r.mday.length c8) (.slice a9 r.yday.length c9) (.slice a10 r.weekno.length c10) (.slice a11 r.month.length c11) (.slice a12 r.setpos.length c12) wr l4.out; rwa [gp] at this)
        have hr := Lib.hid (one_yes gp)
        obtain ⟨e1, e2⟩ := one_at gp hjn
        clear gp
        obtain ⟨b, cap', hv, hb, hc⟩ := OwnI.pos hO3.out (Nat.lt_of_le_of_lt (Nat.zero_le _) e2)
        obtain ⟨rfl, -, -⟩ := Value.slice.inj hv
        have q1 := (hB.out.cell (p := ⟨b, (one r s A j).length, none⟩) hb).trans (hc _ _ e1)
        have hbw := Nat.lt_of_lt_of_le hb hB.out.size
        have i2 : ((one r s A j).length : Int) < ((one r s A n).length : Int) := by omega
        have i3 : (0 : Int) ≤ ((one r s A j).length : Int) := by omega
        clear e1 e2 hv hb hc
        go_wp2_with (first | (go_at_call 9; (with_reducible refine FP2.out.mono ?_); rintro e w4 ⟨rfl, hB4⟩; have q4 := (hB4.cell (p := ⟨b, (one r s A j).length, none⟩) hbw).trans q1))
        go_roundw
        case rel => exact ⟨j + 1, by omega, by rw [hr.out, List.length_append]; go_num, by go_num, Lib.hid (Below.next hB.out hB4)⟩
        case measure => simp [intOf]; omega
    · obtain rfl : j = n := by omega
      go_wp2_with (first | (go_at_call 8; (with_reducible refine (AW.out _).mono ?_); rintro e w5 ⟨rfl, hB5⟩))
      go_ret
      exact ⟨rfl, Below.next (Below.next b3.out hB.out) hB5⟩
theorem leach_any (w : World) (r : R) (sv : Nat → Value) (st n0 n1 : Int) (s0 : 0 ≤ st ∧ st ≤ 18446744073709551615) (u0 : 0 ≤ n0 ∧ n0 ≤ 4294967295) (u1 : 0 ≤ n1 ∧ n1 ≤ 4294967295) (hL : Lists w r sv) (hf : 0 ≤ r.freq ∧ 0 ≤ r.uk ∧ r.uk ≤ 255) (hx : ∀ q, 4 ≤ q → q ≤ 12 → q ≠ 7 → ∀ x ∈ lst r q, (Lit.int .i64 x).wf = true) (hn : ∀ q, 4 ≤ q → q ≤ 12 → q ≠ 7 → (lst r q).length ≤ 9223372036854775807) (hn7 : r.day.length ≤ 9223372036854775807) :
    Calls Try.prog 5 #[ruleV r sv, .int .u64 st, .agg #[.int .u32 n0, .int .u32 n1]] w fun e w' => e = .returned (.bool true) ∧ Below w.heap.size w w' := by
  cases h : smallR r
  · exact leach_no w r sv st n0 n1 hL hn hn7 h
  · exact leach_yes w r sv st n0 n1 s0.1 s0.2 u0.1 u0.2 u1.1 u1.2 hL hf hx hn hn7 h
end Go.Proofs.Ytndicgfafdhieaa.Tm
