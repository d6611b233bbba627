/- The walk of the law DaysetOf (printed by gen_dlaw.py). -/
import Derived.Test.YtpfimkjfonijcaaDoorFc
import Derived.Test.YtpfimkjfonijcaaDoorEg
import Derived.Test.YtpfimkjfonijcaaDoorLc
import Derived.Deep.RegionHeld3
namespace Go.Proofs.YtpfimkjfonijcaaDoor.Da
open Go.RowKit Ru Ut Cw Ra
theorem daysOf_le (r : R) (start a b : Int) : (Dy.daysOf r start a b).length ≤ 1000000 := by
  unfold Dy.daysOf
  split
  · simp
  · have := Dy.days_le r start (b - a).toNat a
    omega
theorem two_cell {w w1 : World} {o : Obj} {A : Array Value} {T : TypeId} (hB : Below ((w.alloc o).alloc (.cells A T)).heap.size ((w.alloc o).alloc (.cells A T)) w1) (i : Nat) {v : Value} (h : A[i]? = some v) : w1.cell? ⟨w.heap.size + 1, i, none⟩ = some v := by
  have h0 := World.cell?_alloc_new (w.alloc o) A T i
  rw [World.size_alloc] at h0
  exact (hB.cell (p := ⟨w.heap.size + 1, i, none⟩) (by simp only [World.size_alloc]; omega)).trans (h0.trans h)
theorem size2 {w w1 : World} {o p : Obj} (hB : Below ((w.alloc o).alloc p).heap.size ((w.alloc o).alloc p) w1) : w.heap.size + 1 < w1.heap.size := by
  have := hB.size
  simp only [World.size_alloc] at this
  omega
theorem kk_two {w : World} {A : Array Value} {T : TypeId} {b : Nat} {r : R} {sv : Nat → Value} (h : BoxR w b r sv) (hb : b < w.heap.size) : BoxR (w.alloc (.cells A T)) b r sv := h.keep hb (Below.next_alloc (Below.refl _ _) _)
set_option maxHeartbeats 16000000 in
set_option maxRecDepth 100000 in
theorem dof_any_no (w : World) (r : R) (sv : Nat → Value) (start a b : Int) (hT : Tab w) (hL : Lists w r sv) (hn : ∀ q, 4 ≤ q → q ≤ 12 → q ≠ 7 → (lst r q).length ≤ 9223372036854775807) (hn7 : r.day.length ≤ 9223372036854775807) (hsm : smallR r = false) :
    Calls Tryd.prog 4 #[ruleV r sv, .int .i64 start, .agg #[.int .i64 a, .int .i64 b]] w fun e w' => e = .returned (.bool true) ∧ Below w.heap.size w w' := by
  have FS : ∀ W, Below w.heap.size w W → Calls Tryd.prog 7 #[ruleV r sv] W fun e w' => e = .returned (.bool false) ∧ Below W.heap.size W w' := fun W hB => by
    have h := small_any W r sv (hL.later hB) hn hn7
    rwa [hsm] at h
  have AW := Lib.hid (fun W (hB : Below w.heap.size w W) => awake_any W (hT.later hB))
  clear hL hn hn7 hT
  unfold ruleV ruleC at *
  replace FS := Lib.hid FS
  go_enter Tryd.func4, Tryd.ntmps4
  go_wp2_with (first
    | (go_at_call 7; (with_reducible refine (FS.out _ (by (repeat' (first | assumption | exact Below.refl _ _ | apply Below.next_alloc | apply Below.drew | (apply Below.next; rotate_left; assumption))))).mono ?_); rintro e w1 ⟨rfl, hB1⟩; have b1 := Lib.hid (show Below w.heap.size w w1 from Below.next_allocs' (Below.next_allocs'' hB1)))
    | (go_at_call 8; (with_reducible refine (AW.out _ b1.out).mono ?_); rintro e w2 ⟨rfl, hB2⟩; have b2 := Lib.hid (Below.next b1.out hB2)))
  go_ret
  exact ⟨rfl, b2.out⟩
set_option maxHeartbeats 16000000 in
set_option maxRecDepth 100000 in
theorem dof_any_yes (w : World) (r : R) (sv : Nat → Value) (start a b : Int) (hT : Tab w) (hL : Lists w r sv) (hf : 0 ≤ r.freq ∧ 0 ≤ r.uk ∧ r.uk ≤ 255) (hx : ∀ q, 4 ≤ q → q ≤ 12 → q ≠ 7 → ∀ x ∈ lst r q, (Lit.int .i64 x).wf = true) (hn : ∀ q, 4 ≤ q → q ≤ 12 → q ≠ 7 → (lst r q).length ≤ 9223372036854775807) (hn7 : r.day.length ≤ 9223372036854775807) (hs1 : -9223372036854775808 ≤ start) (hs2 : start ≤ 9223372036854775807) (hsm : smallR r = true) :
    Calls Tryd.prog 4 #[ruleV r sv, .int .i64 start, .agg #[.int .i64 a, .int .i64 b]] w fun e w' => e = .returned (.bool true) ∧ Below w.heap.size w w' := by
  have FS : ∀ W, Below w.heap.size w W → Calls Tryd.prog 7 #[ruleV r sv] W fun e w' => e = .returned (.bool true) ∧ Below W.heap.size W w' := fun W hB => by
    have h := small_any W r sv (hL.later hB) hn hn7
    rwa [hsm] at h
  have hS := short_small hsm
  have hW : Wide r := ⟨hS, hf, hx⟩
  have FO : ∀ W, Below w.heap.size w W → Calls Tryd.prog 10 #[ruleV r sv] W (GivesR W r) := fun W hB => own_any W r sv (hL.later hB) hS
  have hlen := daysOf_le r start a b
  have FP : ∀ sv' W, Below w.heap.size w W → Lists W r sv' → Calls Tryd.prog 15 #[ruleV r sv', .int .i64 start, .int .i64 a, .int .i64 b] W (Gives W (Dy.daysOf r start a b)) := fun sv' W hB h => of_any W r sv' start a b (hT.later hB) h hW hs1 hs2
  have FR : ∀ W, Below w.heap.size w W → Calls Tryd.prog 16 #[ruleV r sv, .int .i64 start, .int .i64 a, .int .i64 b] W (Gives W (Dy.daysOf r start a b)) := fun W hB => rOf_any W r sv start a b (hL.later hB) hW
  have FQ : ∀ v u W, Ints W v (Dy.daysOf r start a b) → Ints W u (Dy.daysOf r start a b) → Calls Tryd.prog 14 #[v, u] W fun e w' => e = .returned (.bool true) ∧ Below W.heap.size W w' := fun v u W h1 h2 => by
    have h := rSame_any h1 h2 hlen hlen
    rwa [decide_eq_true rfl] at h
  generalize Dy.daysOf r start a b = l at *
  replace FQ := Lib.hid FQ
  have AW := Lib.hid (fun W (hB : Below w.heap.size w W) => awake_any W (hT.later hB))
  replace FP := Lib.hid FP
  have X0 := BoxR.new w r sv 27
  clear hL hn hn7 hx hf hT hW hS
  unfold ruleV at FS FO FR ⊢
  unfold ruleC at FS FO FR X0 ⊢
  replace FS := Lib.hid FS
  replace FO := Lib.hid FO
  replace FR := Lib.hid FR
  replace X0 := Lib.hid X0
  go_enter Tryd.func4, Tryd.ntmps4
  go_wp2_with (first
    | (go_at_call 7; (with_reducible refine (FS.out _ (by (repeat' (first | assumption | exact Below.refl _ _ | apply Below.next_alloc | apply Below.drew | (apply Below.next; rotate_left; assumption))))).mono ?_); rintro e w1 ⟨rfl, hB1⟩; have b1 := Lib.hid (show Below w.heap.size w w1 from Below.next_allocs' (Below.next_allocs'' hB1)); have X1 := Lib.hid ((kk_two (A := #[.int .i64 a, .int .i64 b]) (T := 39) X0.out (by simp)).keep (by simp; omega) hB1); have Y1 : w1.cell? ⟨w.heap.size + 1, 0, none⟩ = some (.int .i64 a) ∧ w1.cell? ⟨w.heap.size + 1, 1, none⟩ = some (.int .i64 b) := ⟨two_cell hB1 0 rfl, two_cell hB1 1 rfl⟩; replace Y1 := Lib.hid Y1; have q2 := Lib.hid (size2 hB1); have q1 := Lib.hid (size1 (Below.next_allocs'' hB1))))
  have SL : ∀ W, Below w1.heap.size w1 W → (W.cell? ⟨w.heap.size, 0, none⟩ = some (.int .u8 r.freq) ∧ W.cell? ⟨w.heap.size, 1, none⟩ = some (.int .i64 r.interval) ∧ W.cell? ⟨w.heap.size, 2, none⟩ = some (.int .i64 r.count) ∧ W.cell? ⟨w.heap.size, 3, none⟩ = some (.int .u8 r.uk) ∧ W.cell? ⟨w.heap.size, 4, none⟩ = some (.int .i64 r.us) ∧ W.cell? ⟨w.heap.size, 5, none⟩ = some (sv 4) ∧ W.cell? ⟨w.heap.size, 6, none⟩ = some (sv 5) ∧ W.cell? ⟨w.heap.size, 7, none⟩ = some (sv 6) ∧ W.cell? ⟨w.heap.size, 8, none⟩ = some (sv 7) ∧ W.cell? ⟨w.heap.size, 9, none⟩ = some (sv 8) ∧ W.cell? ⟨w.heap.size, 10, none⟩ = some (sv 9) ∧ W.cell? ⟨w.heap.size, 11, none⟩ = some (sv 10) ∧ W.cell? ⟨w.heap.size, 12, none⟩ = some (sv 11) ∧ W.cell? ⟨w.heap.size, 13, none⟩ = some (sv 12) ∧ W.cell? ⟨w.heap.size, 14, none⟩ = some (.int .i64 r.wkst) ∧ W.cell? ⟨w.heap.size + 1, 0, none⟩ = some (.int .i64 a) ∧ W.cell? ⟨w.heap.size + 1, 1, none⟩ = some (.int .i64 b)) := fun W hB => by
    obtain ⟨k0, k1, k2, k3, k4, k5, k6, k7, k8, k9, k10, k11, k12, k13, k14⟩ := X1.out.keep q1.out hB
    exact ⟨k0, k1, k2, k3, k4, k5, k6, k7, k8, k9, k10, k11, k12, k13, k14, (hB.cell (p := ⟨w.heap.size + 1, 0, none⟩) q2.out).trans Y1.out.1, (hB.cell (p := ⟨w.heap.size + 1, 1, none⟩) q2.out).trans Y1.out.2⟩
  obtain ⟨k0, k1, k2, k3, k4, k5, k6, k7, k8, k9, k10, k11, k12, k13, k14, k15, k16⟩ := SL w1 (Below.refl _ _)
  replace SL := Lib.hid SL
  go_region_held3 (fun w' => w'.cell? ⟨w.heap.size, 0, none⟩ = some (.int .u8 r.freq) ∧ w'.cell? ⟨w.heap.size, 1, none⟩ = some (.int .i64 r.interval) ∧ w'.cell? ⟨w.heap.size, 2, none⟩ = some (.int .i64 r.count) ∧ w'.cell? ⟨w.heap.size, 3, none⟩ = some (.int .u8 r.uk) ∧ w'.cell? ⟨w.heap.size, 4, none⟩ = some (.int .i64 r.us) ∧ w'.cell? ⟨w.heap.size, 5, none⟩ = some (sv 4) ∧ w'.cell? ⟨w.heap.size, 6, none⟩ = some (sv 5) ∧ w'.cell? ⟨w.heap.size, 7, none⟩ = some (sv 6) ∧ w'.cell? ⟨w.heap.size, 8, none⟩ = some (sv 7) ∧ w'.cell? ⟨w.heap.size, 9, none⟩ = some (sv 8) ∧ w'.cell? ⟨w.heap.size, 10, none⟩ = some (sv 9) ∧ w'.cell? ⟨w.heap.size, 11, none⟩ = some (sv 10) ∧ w'.cell? ⟨w.heap.size, 12, none⟩ = some (sv 11) ∧ w'.cell? ⟨w.heap.size, 13, none⟩ = some (sv 12) ∧ w'.cell? ⟨w.heap.size, 14, none⟩ = some (.int .i64 r.wkst) ∧ w'.cell? ⟨w.heap.size + 1, 0, none⟩ = some (.int .i64 a) ∧ w'.cell? ⟨w.heap.size + 1, 1, none⟩ = some (.int .i64 b)) (first | ((with_reducible refine SL.out _ ?_); (with_reducible (repeat' (first | assumption | exact Below.refl _ _ | apply Below.next_alloc | apply Below.drew | (apply Below.next; rotate_left; assumption)))); done) | go_keep)
    (first
      | (go_at_call 10; (with_reducible refine (FO.out _ (Below.next b1.out (by (repeat' (first | assumption | exact Below.refl _ _ | apply Below.next_alloc | apply Below.drew | (apply Below.next; rotate_left; assumption)))))).mono ?_); rintro e y1 ⟨sv1, rfl, hL1, hC1⟩)
      | (go_at_call 15; (with_reducible refine (FP.out sv1 _ (Below.next b1.out (by (repeat' (first | assumption | exact Below.refl _ _ | apply Below.next_alloc | apply Below.drew | (apply Below.next; rotate_left; assumption))))) (Lists.later hL1 (by (repeat' (first | assumption | exact Below.refl _ _ | apply Below.next_alloc | apply Below.drew | (apply Below.next; rotate_left; assumption)))))).mono ?_); rintro e y2 ⟨v2, rfl, hO2, hC2⟩)
      | (go_at_call 16; (with_reducible refine (FR.out _ (Below.next b1.out (by (repeat' (first | assumption | exact Below.refl _ _ | apply Below.next_alloc | apply Below.drew | (apply Below.next; rotate_left; assumption)))))).mono ?_); rintro e y3 ⟨v3, rfl, hO3, hC3⟩)
      | (go_at_call 14; (with_reducible refine (FQ.out _ _ _ (Ints.below (OwnI.ints hO2) (by (repeat' (first | assumption | exact Below.refl _ _ | apply Below.next_alloc | apply Below.drew | (apply Below.next; rotate_left; assumption))))) (Ints.below (OwnI.ints hO3) (by (repeat' (first | assumption | exact Below.refl _ _ | apply Below.next_alloc | apply Below.drew | (apply Below.next; rotate_left; assumption)))))).mono ?_); rintro e y4 ⟨rfl, hC4⟩)
      | (go_at_call 8; (with_reducible refine (AW.out _ (Below.next b1.out (by (repeat' (first | assumption | exact Below.refl _ _ | apply Below.next_alloc | apply Below.drew | (apply Below.next; rotate_left; assumption)))))).mono ?_); rintro e y6 ⟨rfl, hC6⟩))
  go_wp2
  go_ret
  exact ⟨rfl, Below.next b1.out (by (repeat' (first | assumption | exact Below.refl _ _ | apply Below.next_alloc | apply Below.drew | (apply Below.next; rotate_left; assumption))))⟩
theorem dof_any (w : World) (r : R) (sv : Nat → Value) (start a b : Int) (hT : Tab w) (hL : Lists w r sv) (hf : 0 ≤ r.freq ∧ 0 ≤ r.uk ∧ r.uk ≤ 255) (hx : ∀ q, 4 ≤ q → q ≤ 12 → q ≠ 7 → ∀ x ∈ lst r q, (Lit.int .i64 x).wf = true) (hn : ∀ q, 4 ≤ q → q ≤ 12 → q ≠ 7 → (lst r q).length ≤ 9223372036854775807) (hn7 : r.day.length ≤ 9223372036854775807) (hs1 : -9223372036854775808 ≤ start) (hs2 : start ≤ 9223372036854775807) :
    Calls Tryd.prog 4 #[ruleV r sv, .int .i64 start, .agg #[.int .i64 a, .int .i64 b]] w fun e w' => e = .returned (.bool true) ∧ Below w.heap.size w w' := by
  cases h : smallR r
  · exact dof_any_no w r sv start a b hT hL hn hn7 h
  · exact dof_any_yes w r sv start a b hT hL hf hx hn hn7 hs1 hs2 h
end Go.Proofs.YtpfimkjfonijcaaDoor.Da
