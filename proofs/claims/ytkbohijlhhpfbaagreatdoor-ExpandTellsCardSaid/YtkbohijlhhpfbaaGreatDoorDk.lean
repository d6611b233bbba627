import Derived.Test.YtkbohijlhhpfbaaGreatDoorDi
import Derived.Test.YtkbohijlhhpfbaaGreatDoorRj
/- The walks through dayset's Passes and Nth (printed by gen_pass.py). -/
namespace Go.Proofs.YtkbohijlhhpfbaaGreatDoor.Da
open Go.RowKit Ru Ut Cw Ra
theorem size1 {w W : World} {o : Obj} (h : Below (w.alloc o).heap.size (w.alloc o) W) : w.heap.size < W.heap.size := by
  have := h.size; rw [World.size_alloc] at this; omega
theorem passes_eq (r : R) (start day : Int) {d1 d2 b : Bool} (h1 : Civ.isDay day = d1) (h2 : Civ.isDay (start / 86400) = d2) (h3 : Dy.lets r (Dy.about (start / 86400)) (Dy.about day) = b) :
    Dy.passes r start day = (d1 && (d2 && (decide (0 ≤ start) && (decide (chkR r = 0) && b)))) := by unfold Dy.passes; rw [h1, h2, h3]
theorem fok_about (n : Int) : Fok (Dy.about n) := by have := Dy.about_bd n; unfold Fok; omega
theorem four (t : TypeId) {w W : World} {a b c d : Value} (h : Below (w.alloc (.cells #[a, b, c, d] t)).heap.size (w.alloc (.cells #[a, b, c, d] t)) W) :
    W.cell? ⟨w.heap.size, 0, none⟩ = some a ∧ W.cell? ⟨w.heap.size, 1, none⟩ = some b ∧ W.cell? ⟨w.heap.size, 2, none⟩ = some c ∧ W.cell? ⟨w.heap.size, 3, none⟩ = some d ∧ ∀ i, W.frozen? ⟨w.heap.size, i, none⟩ = false := by
  have k : ∀ i v, (w.alloc (.cells #[a, b, c, d] t)).cell? ⟨w.heap.size, i, none⟩ = some v → W.cell? ⟨w.heap.size, i, none⟩ = some v := fun i v hv => (h.cell (p := ⟨w.heap.size, i, none⟩) (by simp)).trans hv
  refine ⟨k _ _ (World.cell?_alloc_new w #[a, b, c, d] t 0), k _ _ (World.cell?_alloc_new w #[a, b, c, d] t 1), k _ _ (World.cell?_alloc_new w #[a, b, c, d] t 2), k _ _ (World.cell?_alloc_new w #[a, b, c, d] t 3), fun i => ?_⟩
  rw [h.frozen (p := ⟨w.heap.size, i, none⟩) (by simp)]
  simp
end Go.Proofs.YtkbohijlhhpfbaaGreatDoor.Da

/- The walk through dayset's Of (printed by gen_of.py). -/
namespace Go.Proofs.YtkbohijlhhpfbaaGreatDoor.Da
open Go.RowKit Ru Ut Cw Ra
theorem of_nil {r : R} {start a b : Int} (h : a < 0 ∨ b < a ∨ 3652059 < b ∨ 366 < b - a ∨ start < 0 ∨ chkR r ≠ 0 ∨ Civ.isDay (start / 86400) = false) : Dy.daysOf r start a b = [] := by unfold Dy.daysOf; rw [if_pos h]
theorem of_days {r : R} {start a b : Int} (h : ¬ (a < 0 ∨ b < a ∨ 3652059 < b ∨ 366 < b - a ∨ start < 0 ∨ chkR r ≠ 0 ∨ Civ.isDay (start / 86400) = false)) : Dy.daysOf r start a b = Dy.days r start a (b - a).toNat := by unfold Dy.daysOf; rw [if_neg h]
theorem gives_nil {w W : World} {l : List Int} (hl : Hid (l = [])) (hB : Below w.heap.size w W) : Gives w l (.returned (.slice none 0 0)) W := by rw [hl.out]; exact ⟨_, rfl, OwnI.nil _ _, hB⟩
theorem gives_of {w W : World} {B : Nat} {v : Value} {l m : List Int} (h : OwnI W B v m) (hl : m = l) (hb : w.heap.size ≤ B) (hB : Below w.heap.size w W) : Gives w l (.returned v) W := by subst hl; exact ⟨_, rfl, h.base hb, hB⟩
set_option maxHeartbeats 8000000 in
set_option maxRecDepth 100000 in
theorem of_any (w : World) (r : R) (sv : Nat → Value) (start a b : Int) (hT : Tab w) (hL : Lists w r sv) (hW : Wide r) (hs1 : -9223372036854775808 ≤ start) (hs2 : start ≤ 9223372036854775807) :
    Calls Tryz.prog 69 #[ruleV r sv, .int .i64 start, .int .i64 a, .int .i64 b] w (Gives w (Dy.daysOf r start a b)) := by
  have FG := fun n W hT => about_any n W hT
  have FS := fun W hT => about_any (start / 86400) W hT
  obtain ⟨d2, g2⟩ : ∃ b, Civ.isDay (start / 86400) = b := ⟨_, rfl⟩
  obtain ⟨s, hs⟩ : ∃ s, Dy.about (start / 86400) = s := ⟨_, rfl⟩
  rw [g2, hs] at FS
  have FC : ∀ W, Below w.heap.size w W → Calls Tryz.prog 33 #[ruleV r sv] W fun e w' => e = .returned (.int .i64 (chkR r)) ∧ Below W.heap.size W w' := fun W hB => rcheck_any W r sv (hL.later hB) hW
  have FL : ∀ n W, Below w.heap.size w W → Calls Tryz.prog 111 #[ruleV r sv, factsV s, factsV (Dy.about n)] W fun e w' => e = .returned (.bool (Dy.lets r s (Dy.about n))) ∧ Below W.heap.size W w' := fun n W hB =>
    lets_any W r sv s (Dy.about n) (hT.later hB) (hL.later hB) hW.1 (fok_about n)
  replace hT := Lib.hid hT
  unfold ruleV ruleC factsV factsC at *
  replace FG := Lib.hid FG
  replace FS := Lib.hid FS
  replace FL := Lib.hid FL
  replace hs := Lib.hid hs
  replace g2 := Lib.hid g2
  clear hL hW
  by_cases h1 : a < 0
  · have hr := Lib.hid (of_nil (r := r) (start := start) (a := a) (b := b) (.inl h1))
    replace FC := Lib.hid FC
    go_enter Tryz.func69, Tryz.ntmps69
    go_wp2
    go_ret
    exact gives_nil hr (by (repeat' (first | assumption | exact Below.refl _ _ | apply Below.next_alloc | apply Below.drew | (apply Below.next; rotate_left; assumption))))
  by_cases h2 : b < a
  · have hr := Lib.hid (of_nil (r := r) (start := start) (a := a) (b := b) (.inr (.inl h2)))
    replace FC := Lib.hid FC
    go_enter Tryz.func69, Tryz.ntmps69
    go_wp2
    go_ret
    exact gives_nil hr (by (repeat' (first | assumption | exact Below.refl _ _ | apply Below.next_alloc | apply Below.drew | (apply Below.next; rotate_left; assumption))))
  by_cases h3 : 3652059 < b
  · have hr := Lib.hid (of_nil (r := r) (start := start) (a := a) (b := b) (.inr (.inr (.inl h3))))
    replace FC := Lib.hid FC
    go_enter Tryz.func69, Tryz.ntmps69
    go_wp2
    go_ret
    exact gives_nil hr (by (repeat' (first | assumption | exact Below.refl _ _ | apply Below.next_alloc | apply Below.drew | (apply Below.next; rotate_left; assumption))))
  by_cases h4 : 366 < b - a
  · have hr := Lib.hid (of_nil (r := r) (start := start) (a := a) (b := b) (.inr (.inr (.inr (.inl h4)))))
    replace FC := Lib.hid FC
    go_enter Tryz.func69, Tryz.ntmps69
    go_wp2
    go_ret
    exact gives_nil hr (by (repeat' (first | assumption | exact Below.refl _ _ | apply Below.next_alloc | apply Below.drew | (apply Below.next; rotate_left; assumption))))
  by_cases h5 : start < 0
  · have hr := Lib.hid (of_nil (r := r) (start := start) (a := a) (b := b) (.inr (.inr (.inr (.inr (.inl h5))))))
    replace FC := Lib.hid FC
    go_enter Tryz.func69, Tryz.ntmps69
    go_wp2
    go_ret
    exact gives_nil hr (by (repeat' (first | assumption | exact Below.refl _ _ | apply Below.next_alloc | apply Below.drew | (apply Below.next; rotate_left; assumption))))
  by_cases h6 : chkR r = 0
  rotate_left
  · have hq : (chkR r != 0) = true := by simp [h6]
    replace h6 := Lib.hid h6
    have hr := Lib.hid (of_nil (r := r) (start := start) (a := a) (b := b) (.inr (.inr (.inr (.inr (.inr (.inl h6.out)))))))
    replace FC := Lib.hid FC
    go_enter Tryz.func69, Tryz.ntmps69
    go_wp2_with (first
      | (go_at_call 33; (with_reducible refine (FC.out _ (by (repeat' (first | assumption | exact Below.refl _ _ | apply Below.next_alloc | apply Below.drew | (apply Below.next; rotate_left; assumption))))).mono ?_); rintro e w1 ⟨rfl, hB1⟩))
    go_ret
    exact gives_nil hr (Below.next_allocs' hB1)
  have hc := Lib.hid h6
  rw [h6] at FC
  clear h6
  cases d2
  · have hr := Lib.hid (of_nil (r := r) (start := start) (a := a) (b := b) (.inr (.inr (.inr (.inr (.inr (.inr g2.out)))))))
    replace FC := Lib.hid FC
    go_enter Tryz.func69, Tryz.ntmps69
    go_wp2_with (first
      | (go_at_call 33; (with_reducible refine (FC.out _ (by (repeat' (first | assumption | exact Below.refl _ _ | apply Below.next_alloc | apply Below.drew | (apply Below.next; rotate_left; assumption))))).mono ?_); rintro e w1 ⟨rfl, hB1⟩)
      | (go_at_call 110; (with_reducible refine (FS.out _ (hT.out.later (Below.next_allocs' hB1))).mono ?_); rintro e w2 ⟨rfl, hB2⟩))
    go_ret
    exact gives_nil hr (Below.next_alloc (Below.next (Below.next_allocs' hB1) hB2) _)
  have hr := Lib.hid (of_days (r := r) (start := start) (a := a) (b := b) (by have := hc.out; have := g2.out; simp_all))
  replace FC := Lib.hid FC
  go_enter Tryz.func69, Tryz.ntmps69
  go_wp2_with (first
    | (go_at_call 33; (with_reducible refine (FC.out _ (by (repeat' (first | assumption | exact Below.refl _ _ | apply Below.next_alloc | apply Below.drew | (apply Below.next; rotate_left; assumption))))).mono ?_); rintro e w1 ⟨rfl, hB1⟩; have X1 := Lib.hid ((BoxR.new w r sv _).keep (by simp) hB1); have z1 := Lib.hid (size1 hB1))
    | (go_at_call 110; (with_reducible refine (FS.out _ (hT.out.later (Below.next_allocs' hB1))).mono ?_); rintro e w2 ⟨rfl, hB2⟩))
  have b12 := Lib.hid (Below.next (Below.next_allocs' hB1) hB2)
  have z2 : w.heap.size < w2.heap.size := Nat.lt_of_lt_of_le z1.out hB2.size
  have X2 := Lib.hid (X1.out.keep z1.out hB2)
  have z3 := World.size_alloc w2 (.cells (factsC s) 149)
  have X3 := Lib.hid (X2.out.keep z2 (Below.next_alloc (Below.refl _ _) (.cells (factsC s) 149)))
  have Y3 := Lib.hid (BoxF.new w2 s 149)
  have b13 := Lib.hid (Below.next_alloc b12.out (.cells (factsC s) 149))
  unfold factsC at z3 X3 Y3 b13
  generalize w2.alloc _ = W0 at *
  clear X1 X2 b12
  go_loopw [11, 12] (fun v i wr => ∃ k : Nat, k ≤ (b - a).toNat ∧ i = .int .i64 (a + k) ∧ OwnI wr W0.heap.size v (Dy.days r start a k) ∧ Hid (Below W0.heap.size W0 wr)) (fun _ i _ => (b - intOf i).toNat)
  case atStart => exact ⟨0, by omega, by simp, OwnI.nil _ _, Lib.hid (Below.refl _ _)⟩
  case round =>
    obtain ⟨k, hk, rfl, hown, hB⟩ := hrel
    replace hown := Lib.hid hown
    have hlen := Dy.days_le r start k a
    by_cases hkb : a + k < b
    · have b1r := Lib.hid (Below.next b13.out hB.out)
      have hlt : w.heap.size < wr.heap.size := Nat.lt_of_lt_of_le (by omega) hB.out.size
      have hlt2 : w2.heap.size < wr.heap.size := Nat.lt_of_lt_of_le (by omega) hB.out.size
      have XR := Lib.hid (X3.out.keep (by omega) hB.out)
      have YR := Lib.hid (Y3.out.keep (by omega) hB.out)
      have DS := Dy.days_snoc r start k a
      rw [hs.out] at DS
      obtain ⟨f, hf⟩ : ∃ f, Dy.about (a + k) = f := ⟨_, rfl⟩
      obtain ⟨t, ht⟩ : ∃ t, Dy.lets r s f = t := ⟨_, rfl⟩
      obtain ⟨u, hu⟩ : ∃ u, Civ.isDay (a + k) = u := ⟨_, rfl⟩
      have FA := FG.out (a + k)
      have FM := FL.out (a + k)
      rw [hf, hu] at FA
      rw [hf, ht] at FM
      rw [hf, ht] at DS
      replace FA := Lib.hid FA
      replace FM := Lib.hid FM
      clear hf ht hu
      cases t
      · rw [if_neg (by decide), List.append_nil] at DS
        replace DS := Lib.hid DS
        go_wp2_with (first
          | (go_at_call 110; (with_reducible refine (FA.out _ (hT.out.later b1r.out)).mono ?_); rintro e w3 ⟨rfl, hB3⟩; have q1 : w.heap.size < w3.heap.size := Nat.lt_of_lt_of_le hlt hB3.size; have q2 : w2.heap.size < w3.heap.size := Nat.lt_of_lt_of_le hlt2 hB3.size; obtain ⟨x0, x1, x2, x3, x4, x5, x6, x7, x8, x9, x10, x11, x12, x13, x14⟩ := XR.out.keep hlt hB3; obtain ⟨y0, y1, y2, y3, y4, y5, y6, y7, y8, y9, y10⟩ := YR.out.keep hlt2 hB3)
          | (go_at_call 111; (with_reducible refine (FM.out _ (Below.next_alloc (Below.next b1r.out hB3) _)).mono ?_); rintro e w4 ⟨rfl, hB4⟩))
        have B34 := Below.next (Below.next_alloc hB3 _) hB4
        go_roundw
        case rel => exact ⟨k + 1, by omega, by go_num, by rw [DS.out]; exact hown.out.below B34, Lib.hid (Below.next hB.out B34)⟩
        case measure => simp [intOf]; omega
      · rw [if_pos rfl] at DS
        replace DS := Lib.hid DS
        go_wp2_with (first
          | (go_at_call 110; (with_reducible refine (FA.out _ (hT.out.later b1r.out)).mono ?_); rintro e w3 ⟨rfl, hB3⟩; have q1 : w.heap.size < w3.heap.size := Nat.lt_of_lt_of_le hlt hB3.size; have q2 : w2.heap.size < w3.heap.size := Nat.lt_of_lt_of_le hlt2 hB3.size; obtain ⟨x0, x1, x2, x3, x4, x5, x6, x7, x8, x9, x10, x11, x12, x13, x14⟩ := XR.out.keep hlt hB3; obtain ⟨y0, y1, y2, y3, y4, y5, y6, y7, y8, y9, y10⟩ := YR.out.keep hlt2 hB3)
          | (go_at_call 111; (with_reducible refine (FM.out _ (Below.next_alloc (Below.next b1r.out hB3) _)).mono ?_); rintro e w4 ⟨rfl, hB4⟩; have B34 := Lib.hid (Below.next (Below.next_alloc hB3 _) hB4))
          | (at_builtin; refine push_int rfl _ _ rfl W0.heap.size _ (Dy.days r start a k) rfl (hown.out.below B34.out) rfl (by omega) (Below.next hB.out B34.out).size ?_; intro v5 w5 hown5 hB5))
        go_roundw
        case rel => exact ⟨k + 1, by omega, by go_num, by rw [DS.out]; exact hown5, Lib.hid ((Below.next hB.out B34.out).trans hB5)⟩
        case measure => simp [intOf]; omega
    · have hr2 := Lib.hid (show Dy.days r start a k = Dy.daysOf r start a b by rw [hr.out, show k = (b - a).toNat by omega])
      go_wp2
      go_ret
      exact gives_of hown.out hr2.out b13.out.size (Below.next b13.out hB.out)
end Go.Proofs.YtkbohijlhhpfbaaGreatDoor.Da

