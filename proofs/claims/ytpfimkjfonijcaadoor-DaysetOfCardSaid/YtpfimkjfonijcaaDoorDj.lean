/- The walks through dayset's Passes and Nth (printed by gen_pass.py). -/
import Derived.Test.YtpfimkjfonijcaaDoorDi
namespace Go.Proofs.YtpfimkjfonijcaaDoor.Da
open Go.RowKit Ru Ut Cw Ra
theorem size1 {w W : World} {o : Obj} (h : Below (w.alloc o).heap.size (w.alloc o) W) : w.heap.size < W.heap.size := by
  have := h.size; rw [World.size_alloc] at this; omega
theorem passes_eq (r : R) (start day : Int) {d1 d2 b : Bool} (h1 : Civ.isDay day = d1) (h2 : Civ.isDay (start / 86400) = d2) (h3 : Dy.lets r (Dy.about (start / 86400)) (Dy.about day) = b) :
    Dy.passes r start day = (d1 && (d2 && (decide (0 ≤ start) && (decide (chkR r = 0) && b)))) := by unfold Dy.passes; rw [h1, h2, h3]
theorem fok_about (n : Int) : Fok (Dy.about n) := by have := Dy.about_bd n; unfold Fok; omega
set_option maxHeartbeats 8000000 in
set_option maxRecDepth 100000 in
theorem passes_any (w : World) (r : R) (sv : Nat → Value) (start day : Int) (hT : Tab w) (hL : Lists w r sv) (hW : Wide r) (hs : -9223372036854775808 ≤ start ∧ start ≤ 9223372036854775807) :
    Calls Tryd.prog 9 #[ruleV r sv, .int .i64 start, .int .i64 day] w fun e w' => e = .returned (.bool (Dy.passes r start day)) ∧ Below w.heap.size w w' := by
  have FG := fun n W hT => about_any n W hT
  have FD := fun W hT => about_any day W hT
  have FS := fun W hT => about_any (start / 86400) W hT
  obtain ⟨d1, g1⟩ : ∃ b, Civ.isDay day = b := ⟨_, rfl⟩
  obtain ⟨d2, g2⟩ : ∃ b, Civ.isDay (start / 86400) = b := ⟨_, rfl⟩
  obtain ⟨b, g3⟩ : ∃ b, Dy.lets r (Dy.about (start / 86400)) (Dy.about day) = b := ⟨_, rfl⟩
  have hr := passes_eq r start day g1 g2 g3
  have hfk := fok_about day
  obtain ⟨f, hf⟩ : ∃ f, Dy.about day = f := ⟨_, rfl⟩
  obtain ⟨s, hs2⟩ : ∃ s, Dy.about (start / 86400) = s := ⟨_, rfl⟩
  rw [g1, hf] at FD
  rw [g2, hs2] at FS
  rw [hf, hs2] at g3
  rw [hf] at hfk
  have FC : ∀ W, Below w.heap.size w W → Calls Tryd.prog 23 #[ruleV r sv] W fun e w' => e = .returned (.int .i64 (chkR r)) ∧ Below W.heap.size W w' := fun W hB => rcheck_any W r sv (hL.later hB) hW
  have FL : ∀ W, Below w.heap.size w W → Calls Tryd.prog 24 #[ruleV r sv, factsV s, factsV f] W fun e w' => e = .returned (.bool b) ∧ Below W.heap.size W w' := fun W hB => by
    have := lets_any W r sv s f (hT.later hB) (hL.later hB) hW.1 hfk; rwa [g3] at this
  have HT := Lib.hid hT
  unfold ruleV ruleC factsV factsC at *
  replace FG := Lib.hid FG
  replace FD := Lib.hid FD
  replace FS := Lib.hid FS
  replace FL := Lib.hid FL
  clear g1 g2 g3 hf hs2 hT hL hW hfk
  obtain ⟨hs1, hs2⟩ := hs
  by_cases h0 : 0 ≤ start
  · rw [decide_eq_true h0, Bool.true_and] at hr
    cases d1
    · rw [Bool.false_and] at hr
      replace FC := Lib.hid FC
      replace hr := Lib.hid hr
      go_enter Tryd.func9, Tryd.ntmps9
      go_wp2_with (first
        | (go_at_call 22; (with_reducible refine (FD.out _ (HT.out.later (by (repeat' (first | assumption | exact Below.refl _ _ | apply Below.next_alloc | apply Below.drew | (apply Below.next; rotate_left; assumption)))))).mono ?_); rintro e w1 ⟨rfl, hB1⟩; have z1 := Lib.hid (size1 hB1); have X1 := Lib.hid ((BoxR.new w r sv _).keep (by simp) hB1); have b1 := Lib.hid (Below.next (Below.next_alloc (Below.refl _ _) _) hB1))
        | (go_at_call 22; (with_reducible refine (FS.out _ (HT.out.later (Below.next_alloc b1.out _))).mono ?_); rintro e w2 ⟨rfl, hB2⟩; have b12 := Lib.hid (Below.next (Below.next_alloc (Below.refl _ _) _) hB2); have z2 := Lib.hid (size1 hB2); have X2 := Lib.hid (X1.out.keep z1.out b12.out); have Y2 := Lib.hid ((BoxF.new w1 f _).keep (by simp) hB2); have z0 : w.heap.size < w1.heap.size := z1.out; have z01 : w1.heap.size < w2.heap.size := z2.out; have z02 : w.heap.size < w2.heap.size := Nat.lt_trans z0 z01; obtain ⟨x0, x1, x2, x3, x4, x5, x6, x7, x8, x9, x10, x11, x12, x13, x14⟩ := X2.out))
      go_ret
      exact ⟨ret_b hr.out.symm, Below.next_alloc (Below.next b1.out b12.out) _⟩
    rw [Bool.true_and] at hr
    cases d2
    · rw [Bool.false_and] at hr
      replace FC := Lib.hid FC
      replace hr := Lib.hid hr
      go_enter Tryd.func9, Tryd.ntmps9
      go_wp2_with (first
        | (go_at_call 22; (with_reducible refine (FD.out _ (HT.out.later (by (repeat' (first | assumption | exact Below.refl _ _ | apply Below.next_alloc | apply Below.drew | (apply Below.next; rotate_left; assumption)))))).mono ?_); rintro e w1 ⟨rfl, hB1⟩; have z1 := Lib.hid (size1 hB1); have X1 := Lib.hid ((BoxR.new w r sv _).keep (by simp) hB1); have b1 := Lib.hid (Below.next (Below.next_alloc (Below.refl _ _) _) hB1))
        | (go_at_call 22; (with_reducible refine (FS.out _ (HT.out.later (Below.next_alloc b1.out _))).mono ?_); rintro e w2 ⟨rfl, hB2⟩; have b12 := Lib.hid (Below.next (Below.next_alloc (Below.refl _ _) _) hB2); have z2 := Lib.hid (size1 hB2); have X2 := Lib.hid (X1.out.keep z1.out b12.out); have Y2 := Lib.hid ((BoxF.new w1 f _).keep (by simp) hB2); have z0 : w.heap.size < w1.heap.size := z1.out; have z01 : w1.heap.size < w2.heap.size := z2.out; have z02 : w.heap.size < w2.heap.size := Nat.lt_trans z0 z01; obtain ⟨x0, x1, x2, x3, x4, x5, x6, x7, x8, x9, x10, x11, x12, x13, x14⟩ := X2.out))
      go_ret
      exact ⟨ret_b hr.out.symm, Below.next_alloc (Below.next b1.out b12.out) _⟩
    rw [Bool.true_and] at hr
    by_cases hc : chkR r = 0
    · rw [decide_eq_true hc, Bool.true_and] at hr
      rw [hc] at FC
      replace FC := Lib.hid FC
      clear hc
      replace hr := Lib.hid hr
      go_enter Tryd.func9, Tryd.ntmps9
      go_wp2_with (first
        | (go_at_call 22; (with_reducible refine (FD.out _ (HT.out.later (by (repeat' (first | assumption | exact Below.refl _ _ | apply Below.next_alloc | apply Below.drew | (apply Below.next; rotate_left; assumption)))))).mono ?_); rintro e w1 ⟨rfl, hB1⟩; have z1 := Lib.hid (size1 hB1); have X1 := Lib.hid ((BoxR.new w r sv _).keep (by simp) hB1); have b1 := Lib.hid (Below.next (Below.next_alloc (Below.refl _ _) _) hB1))
        | (go_at_call 22; (with_reducible refine (FS.out _ (HT.out.later (Below.next_alloc b1.out _))).mono ?_); rintro e w2 ⟨rfl, hB2⟩; have b12 := Lib.hid (Below.next (Below.next_alloc (Below.refl _ _) _) hB2); have z2 := Lib.hid (size1 hB2); have X2 := Lib.hid (X1.out.keep z1.out b12.out); have Y2 := Lib.hid ((BoxF.new w1 f _).keep (by simp) hB2); have z0 : w.heap.size < w1.heap.size := z1.out; have z01 : w1.heap.size < w2.heap.size := z2.out; have z02 : w.heap.size < w2.heap.size := Nat.lt_trans z0 z01; obtain ⟨x0, x1, x2, x3, x4, x5, x6, x7, x8, x9, x10, x11, x12, x13, x14⟩ := X2.out)
        | (go_at_call 23; (with_reducible refine (FC.out _ (Below.next_alloc (Below.next b1.out b12.out) _)).mono ?_); rintro e w3 ⟨rfl, hB3⟩; clear x0 x1 x2 x3 x4 x5 x6 x7 x8 x9 x10 x11 x12 x13 x14; have b23 := Lib.hid (Below.next (Below.next_alloc (Below.refl _ _) _) hB3); obtain ⟨x0, x1, x2, x3, x4, x5, x6, x7, x8, x9, x10, x11, x12, x13, x14⟩ := X2.out.keep (Nat.lt_trans z1.out z2.out) b23.out; obtain ⟨y0, y1, y2, y3, y4, y5, y6, y7, y8, y9, y10⟩ := Y2.out.keep z2.out b23.out; obtain ⟨z0, z1, z2, z3, z4, z5, z6, z7, z8, z9, z10⟩ := (BoxF.new w2 s _).keep (by simp) hB3)
        | (go_at_call 24; (with_reducible refine (FL.out _ (Below.next (Below.next b1.out b12.out) b23.out)).mono ?_); rintro e w4 ⟨rfl, hB4⟩))
      go_ret
      exact ⟨ret_b hr.out.symm, Below.next (Below.next (Below.next b1.out b12.out) b23.out) hB4⟩
    · rw [decide_eq_false hc, Bool.false_and] at hr
      have hq : (chkR r == 0) = false := by simp [hc]
      replace FC := Lib.hid FC
      clear hc
      replace hr := Lib.hid hr
      go_enter Tryd.func9, Tryd.ntmps9
      go_wp2_with (first
        | (go_at_call 22; (with_reducible refine (FD.out _ (HT.out.later (by (repeat' (first | assumption | exact Below.refl _ _ | apply Below.next_alloc | apply Below.drew | (apply Below.next; rotate_left; assumption)))))).mono ?_); rintro e w1 ⟨rfl, hB1⟩; have z1 := Lib.hid (size1 hB1); have X1 := Lib.hid ((BoxR.new w r sv _).keep (by simp) hB1); have b1 := Lib.hid (Below.next (Below.next_alloc (Below.refl _ _) _) hB1))
        | (go_at_call 22; (with_reducible refine (FS.out _ (HT.out.later (Below.next_alloc b1.out _))).mono ?_); rintro e w2 ⟨rfl, hB2⟩; have b12 := Lib.hid (Below.next (Below.next_alloc (Below.refl _ _) _) hB2); have z2 := Lib.hid (size1 hB2); have X2 := Lib.hid (X1.out.keep z1.out b12.out); have Y2 := Lib.hid ((BoxF.new w1 f _).keep (by simp) hB2); have z0 : w.heap.size < w1.heap.size := z1.out; have z01 : w1.heap.size < w2.heap.size := z2.out; have z02 : w.heap.size < w2.heap.size := Nat.lt_trans z0 z01; obtain ⟨x0, x1, x2, x3, x4, x5, x6, x7, x8, x9, x10, x11, x12, x13, x14⟩ := X2.out)
        | (go_at_call 23; (with_reducible refine (FC.out _ (Below.next_alloc (Below.next b1.out b12.out) _)).mono ?_); rintro e w3 ⟨rfl, hB3⟩; clear x0 x1 x2 x3 x4 x5 x6 x7 x8 x9 x10 x11 x12 x13 x14; have b23 := Lib.hid (Below.next (Below.next_alloc (Below.refl _ _) _) hB3); obtain ⟨x0, x1, x2, x3, x4, x5, x6, x7, x8, x9, x10, x11, x12, x13, x14⟩ := X2.out.keep (Nat.lt_trans z1.out z2.out) b23.out; obtain ⟨y0, y1, y2, y3, y4, y5, y6, y7, y8, y9, y10⟩ := Y2.out.keep z2.out b23.out; obtain ⟨z0, z1, z2, z3, z4, z5, z6, z7, z8, z9, z10⟩ := (BoxF.new w2 s _).keep (by simp) hB3))
      go_ret
      exact ⟨ret_b hr.out.symm, Below.next (Below.next (Below.next b1.out b12.out) b23.out) (Below.refl _ _)⟩
  · rw [decide_eq_false h0, Bool.false_and, Bool.and_false, Bool.and_false] at hr
    replace FC := Lib.hid FC
    replace hr := Lib.hid hr
    go_enter Tryd.func9, Tryd.ntmps9
    go_wp2_with (first
      | (go_at_call 22; (with_reducible refine (FD.out _ (HT.out.later (by (repeat' (first | assumption | exact Below.refl _ _ | apply Below.next_alloc | apply Below.drew | (apply Below.next; rotate_left; assumption)))))).mono ?_); rintro e w1 ⟨rfl, hB1⟩; have z1 := Lib.hid (size1 hB1); have X1 := Lib.hid ((BoxR.new w r sv _).keep (by simp) hB1); have b1 := Lib.hid (Below.next (Below.next_alloc (Below.refl _ _) _) hB1))
      | (go_at_call 22; (with_reducible refine (FG.out _ _ (HT.out.later (Below.next_alloc b1.out _))).mono ?_); rintro e w2 ⟨rfl, hB2⟩; have b12 := Lib.hid (Below.next (Below.next_alloc (Below.refl _ _) _) hB2); have z2 := Lib.hid (size1 hB2); have X2 := Lib.hid (X1.out.keep z1.out b12.out); have Y2 := Lib.hid ((BoxF.new w1 f _).keep (by simp) hB2); have z0 : w.heap.size < w1.heap.size := z1.out; have z01 : w1.heap.size < w2.heap.size := z2.out; have z02 : w.heap.size < w2.heap.size := Nat.lt_trans z0 z01; obtain ⟨x0, x1, x2, x3, x4, x5, x6, x7, x8, x9, x10, x11, x12, x13, x14⟩ := X2.out))
    all_goals
      go_ret
      exact ⟨ret_b hr.out.symm, Below.next_alloc (Below.next b1.out b12.out) _⟩
theorem four (t : TypeId) {w W : World} {a b c d : Value} (h : Below (w.alloc (.cells #[a, b, c, d] t)).heap.size (w.alloc (.cells #[a, b, c, d] t)) W) :
    W.cell? ⟨w.heap.size, 0, none⟩ = some a ∧ W.cell? ⟨w.heap.size, 1, none⟩ = some b ∧ W.cell? ⟨w.heap.size, 2, none⟩ = some c ∧ W.cell? ⟨w.heap.size, 3, none⟩ = some d ∧ ∀ i, W.frozen? ⟨w.heap.size, i, none⟩ = false := by
  have k : ∀ i v, (w.alloc (.cells #[a, b, c, d] t)).cell? ⟨w.heap.size, i, none⟩ = some v → W.cell? ⟨w.heap.size, i, none⟩ = some v := fun i v hv => (h.cell (p := ⟨w.heap.size, i, none⟩) (by simp)).trans hv
  refine ⟨k _ _ (World.cell?_alloc_new w #[a, b, c, d] t 0), k _ _ (World.cell?_alloc_new w #[a, b, c, d] t 1), k _ _ (World.cell?_alloc_new w #[a, b, c, d] t 2), k _ _ (World.cell?_alloc_new w #[a, b, c, d] t 3), fun i => ?_⟩
  rw [h.frozen (p := ⟨w.heap.size, i, none⟩) (by simp)]
  simp
set_option maxHeartbeats 2000000 in
theorem nth_any (w : World) (day : Int) (hT : Tab w) : Calls Tryd.prog 12 #[.int .i64 day] w fun e w' => e = .returned (.agg #[.int .i64 (Dy.about day).n0, .int .i64 (Dy.about day).n1, .int .i64 (Dy.about day).n2, .int .i64 (Dy.about day).n3]) ∧ Below w.heap.size w w' := by
  have FD := fun W hT => about_any day W hT
  obtain ⟨f, hf⟩ : ∃ f, Dy.about day = f := ⟨_, rfl⟩
  obtain ⟨d1, g1⟩ : ∃ b, Civ.isDay day = b := ⟨_, rfl⟩
  rw [hf, g1] at FD
  rw [hf]
  unfold factsV factsC at *
  replace FD := Lib.hid FD
  have HT := Lib.hid hT
  clear hf g1 hT
  go_enter Tryd.func12, Tryd.ntmps12
  go_wp2_with (first
    | (go_at_call 22; (with_reducible refine (FD.out _ (HT.out.later (by (repeat' (first | assumption | exact Below.refl _ _ | apply Below.next_alloc | apply Below.drew | (apply Below.next; rotate_left; assumption)))))).mono ?_); rintro e w1 ⟨rfl, hB1⟩; have z1 := size1 hB1; obtain ⟨q0, q1, q2, q3, f0⟩ := four _ hB1))
  refine bodyPost_ret (v := .agg #[.int .i64 f.n0, .int .i64 f.n1, .int .i64 f.n2, .int .i64 f.n3]) (by simp [results, Tryd.results12, go_sem, q0, q1, q2, q3, z1]) rfl ⟨rfl, ?_⟩
  exact ((((((Below.next (Below.next_alloc (Below.refl _ w) _) hB1).setCell (Nat.le_refl _) _).setCell (Nat.le_refl _) _).setCell (Nat.le_refl _) _).setCell (Nat.le_refl _) _).alloc (by simp; omega) _)
end Go.Proofs.YtpfimkjfonijcaaDoor.Da
