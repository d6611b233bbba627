/- Whether a second passes, and how many do: the walks through timeset's Passes and Count. -/
import Derived.Test.YtndicgfafdhieaaTi
namespace Go.Proofs.Ytndicgfafdhieaa.Tm
open Go.RowKit Go.Shelf Ru Ut Cw Ra
def passT (r : R) (start t : Int) : Bool := mayT r start && (decide (0 ≤ t) && (decide (t < 86400) && (decide (t / 3600 ∈ hourL r start) && (decide (t / 60 % 60 ∈ minL r start) && decide (t % 60 ∈ secL r start)))))
theorem has_b {w W : World} {a1 : Option Addr} {c1 a : Nat} {l : List Int} {want : Int} {b : Bool} (hb : Hid (decide (want ∈ chL a l) = b)) (hI : Ints w (.slice a1 l.length c1) l) (hB : Below w.heap.size w W) (ha : Hid (a + l.length ≤ 100)) :
    Calls Try.prog 18 #[.agg #[.slice a1 l.length c1, .int .i64 a], .int .i64 want] W fun e W' => e = .returned (.bool b) ∧ Below W.heap.size W W' := by
  have := has_any want (hI.below hB) (a := a) (by have := ha.out; omega) (by have := ha.out; omega)
  rwa [hb.out] at this
set_option maxHeartbeats 4000000 in
set_option maxRecDepth 100000 in
theorem passes_core (w : World) (r : R) (sv : Nat → Value) (start t : Int) (lh : List Int) (ah : Nat) (lm : List Int) (am : Nat) (ls : List Int) (as_ : Nat)
    (FC : ∀ W, Below w.heap.size w W → Calls Try.prog 17 #[ruleV r sv, .int .i64 start] W (GivesS W lh ah lm am ls as_)) (hah : ah + lh.length ≤ 100) (ham : am + lm.length ≤ 100) (has : as_ + ls.length ≤ 100) :
    Calls Try.prog 9 #[ruleV r sv, .int .i64 start, .int .i64 t] w fun e w' => e = .returned (.bool (decide (0 ≤ t) && (decide (t < 86400) && (decide (t / 3600 ∈ chL ah lh) && (decide (t / 60 % 60 ∈ chL am lm) && decide (t % 60 ∈ chL as_ ls)))))) ∧ Below w.heap.size w w' := by
  obtain ⟨bh, gh⟩ : ∃ b, decide (t / 3600 ∈ chL ah lh) = b := ⟨_, rfl⟩
  obtain ⟨bm, gm⟩ : ∃ b, decide (t / 60 % 60 ∈ chL am lm) = b := ⟨_, rfl⟩
  obtain ⟨bs, gs⟩ : ∃ b, decide (t % 60 ∈ chL as_ ls) = b := ⟨_, rfl⟩
  rw [gh, gm, gs]
  replace gh := Lib.hid gh
  replace gm := Lib.hid gm
  replace gs := Lib.hid gs
  unfold ruleV ruleC at *
  replace FC := Lib.hid FC
  replace hah := Lib.hid hah
  replace ham := Lib.hid ham
  replace has := Lib.hid has
  by_cases h0 : t < 0
  · rw [decide_eq_false (by omega), Bool.false_and]
    go_enter Try.func9, Try.ntmps9
    go_wp2_with (first
      | (go_at_call 17; (with_reducible refine (FC.out _ (by (repeat' (first | assumption | exact Below.refl _ _ | apply Below.next_alloc | apply Below.drew | (apply Below.next; rotate_left; assumption))))).mono ?_); rintro e w1 ⟨a1, c1, a2, c2, a3, c3, rfl, i1, i2, i3, hB1⟩; clear i1 i2 i3))
    all_goals
      go_ret
      exact ⟨rfl, by (repeat' (first | assumption | exact Below.refl _ _ | apply Below.next_alloc | apply Below.drew | (apply Below.next; rotate_left; assumption)))⟩
  by_cases h1 : 86400 ≤ t
  · rw [decide_eq_true (by omega), decide_eq_false (show ¬ t < 86400 by omega), Bool.false_and, Bool.and_false]
    go_enter Try.func9, Try.ntmps9
    go_wp2_with (first
      | (go_at_call 17; (with_reducible refine (FC.out _ (by (repeat' (first | assumption | exact Below.refl _ _ | apply Below.next_alloc | apply Below.drew | (apply Below.next; rotate_left; assumption))))).mono ?_); rintro e w1 ⟨a1, c1, a2, c2, a3, c3, rfl, i1, i2, i3, hB1⟩; clear i1 i2 i3))
    all_goals
      go_ret
      exact ⟨rfl, by (repeat' (first | assumption | exact Below.refl _ _ | apply Below.next_alloc | apply Below.drew | (apply Below.next; rotate_left; assumption)))⟩
  rw [decide_eq_true (by omega), decide_eq_true (show t < 86400 by omega), Bool.true_and, Bool.true_and]
  cases bh
  · rw [Bool.false_and]
    go_enter Try.func9, Try.ntmps9
    go_wp2_with (first
      | (go_at_call 17; (with_reducible refine (FC.out _ (by (repeat' (first | assumption | exact Below.refl _ _ | apply Below.next_alloc | apply Below.drew | (apply Below.next; rotate_left; assumption))))).mono ?_); rintro e w1 ⟨a1, c1, a2, c2, a3, c3, rfl, i1, i2, i3, hB1⟩; replace i1 := Lib.hid i1; replace i2 := Lib.hid i2; replace i3 := Lib.hid i3; replace hB1 := Lib.hid (Below.next (Below.next_alloc (Below.refl _ _) _) hB1))
      | (go_at_call 18; (with_reducible refine (has_b gh i1.out (by (repeat' (first | assumption | exact Below.refl _ _ | apply Below.next_alloc | apply Below.drew | (apply Below.next; rotate_left; assumption)))) hah).mono ?_); rintro e w2 ⟨rfl, hB2⟩; obtain ⟨zc, -⟩ := six_all (b := w1.heap.size) _ w1 rfl (by simp) hB2; have z2 := zc 2 _ rfl; have z3 := zc 3 _ rfl; have z4 := zc 4 _ rfl; have z5 := zc 5 _ rfl; clear zc; have y2 : w1.heap.size < w2.heap.size := by have := hB2.size; simp at this; omega))
    all_goals
      go_ret
      exact ⟨rfl, by (repeat' (first | assumption | exact Below.refl _ _ | apply Below.next_alloc | apply Below.drew | (apply Below.next; rotate_left; assumption)))⟩
  rw [Bool.true_and]
  cases bm
  · rw [Bool.false_and]
    go_enter Try.func9, Try.ntmps9
    go_wp2_with (first
      | (go_at_call 17; (with_reducible refine (FC.out _ (by (repeat' (first | assumption | exact Below.refl _ _ | apply Below.next_alloc | apply Below.drew | (apply Below.next; rotate_left; assumption))))).mono ?_); rintro e w1 ⟨a1, c1, a2, c2, a3, c3, rfl, i1, i2, i3, hB1⟩; replace i1 := Lib.hid i1; replace i2 := Lib.hid i2; replace i3 := Lib.hid i3; replace hB1 := Lib.hid (Below.next (Below.next_alloc (Below.refl _ _) _) hB1))
      | (go_at_call 18; (with_reducible refine (has_b gh i1.out (by (repeat' (first | assumption | exact Below.refl _ _ | apply Below.next_alloc | apply Below.drew | (apply Below.next; rotate_left; assumption)))) hah).mono ?_); rintro e w2 ⟨rfl, hB2⟩; obtain ⟨zc, -⟩ := six_all (b := w1.heap.size) _ w1 rfl (by simp) hB2; have z2 := zc 2 _ rfl; have z3 := zc 3 _ rfl; have z4 := zc 4 _ rfl; have z5 := zc 5 _ rfl; clear zc; have y2 : w1.heap.size < w2.heap.size := by have := hB2.size; simp at this; omega)
      | (go_at_call 18; (with_reducible refine (has_b gm i2.out (by (repeat' (first | assumption | exact Below.refl _ _ | apply Below.next_alloc | apply Below.drew | (apply Below.next; rotate_left; assumption)))) ham).mono ?_); rintro e w3 ⟨rfl, hB3⟩; replace z4 := (hB3.cell (p := ⟨w1.heap.size, 4, none⟩) y2).trans z4; replace z5 := (hB3.cell (p := ⟨w1.heap.size, 5, none⟩) y2).trans z5; clear z2 z3))
    all_goals
      go_ret
      exact ⟨rfl, by (repeat' (first | assumption | exact Below.refl _ _ | apply Below.next_alloc | apply Below.drew | (apply Below.next; rotate_left; assumption)))⟩
  rw [Bool.true_and]
  go_enter Try.func9, Try.ntmps9
  go_wp2_with (first
    | (go_at_call 17; (with_reducible refine (FC.out _ (by (repeat' (first | assumption | exact Below.refl _ _ | apply Below.next_alloc | apply Below.drew | (apply Below.next; rotate_left; assumption))))).mono ?_); rintro e w1 ⟨a1, c1, a2, c2, a3, c3, rfl, i1, i2, i3, hB1⟩; replace i1 := Lib.hid i1; replace i2 := Lib.hid i2; replace i3 := Lib.hid i3; replace hB1 := Lib.hid (Below.next (Below.next_alloc (Below.refl _ _) _) hB1))
    | (go_at_call 18; (with_reducible refine (has_b gh i1.out (by (repeat' (first | assumption | exact Below.refl _ _ | apply Below.next_alloc | apply Below.drew | (apply Below.next; rotate_left; assumption)))) hah).mono ?_); rintro e w2 ⟨rfl, hB2⟩; obtain ⟨zc, -⟩ := six_all (b := w1.heap.size) _ w1 rfl (by simp) hB2; have z2 := zc 2 _ rfl; have z3 := zc 3 _ rfl; have z4 := zc 4 _ rfl; have z5 := zc 5 _ rfl; clear zc; have y2 : w1.heap.size < w2.heap.size := by have := hB2.size; simp at this; omega)
    | (go_at_call 18; (with_reducible refine (has_b gm i2.out (by (repeat' (first | assumption | exact Below.refl _ _ | apply Below.next_alloc | apply Below.drew | (apply Below.next; rotate_left; assumption)))) ham).mono ?_); rintro e w3 ⟨rfl, hB3⟩; replace z4 := (hB3.cell (p := ⟨w1.heap.size, 4, none⟩) y2).trans z4; replace z5 := (hB3.cell (p := ⟨w1.heap.size, 5, none⟩) y2).trans z5; clear z2 z3)
    | (go_at_call 18; (with_reducible refine (has_b gs i3.out (by (repeat' (first | assumption | exact Below.refl _ _ | apply Below.next_alloc | apply Below.drew | (apply Below.next; rotate_left; assumption)))) has).mono ?_); rintro e w4 ⟨rfl, hB4⟩))
  all_goals
    go_ret
    exact ⟨rfl, by (repeat' (first | assumption | exact Below.refl _ _ | apply Below.next_alloc | apply Below.drew | (apply Below.next; rotate_left; assumption)))⟩
theorem tpasses_no (w : World) (r : R) (sv : Nat → Value) (start t : Int) (hL : Lists w r sv) (hW : Wide r) (hm : mayT r start = false) :
    Calls Try.prog 9 #[ruleV r sv, .int .i64 start, .int .i64 t] w fun e w' => e = .returned (.bool false) ∧ Below w.heap.size w w' := by
  have FC : ∀ W, Below w.heap.size w W → Calls Try.prog 17 #[ruleV r sv, .int .i64 start] W fun e w' => e = .returned (.tuple #[zeroT, .bool false]) ∧ Below W.heap.size W w' := fun W hB => set_no W r sv start (hL.later hB) hW hm
  unfold ruleV ruleC at *
  replace FC := Lib.hid FC
  unfold zeroT at FC
  go_enter Try.func9, Try.ntmps9
  go_wp2_with (first
    | (go_at_call 17; (with_reducible refine (FC.out _ (by (repeat' (first | assumption | exact Below.refl _ _ | apply Below.next_alloc | apply Below.drew | (apply Below.next; rotate_left; assumption))))).mono ?_); rintro e w1 ⟨rfl, hB1⟩))
  all_goals
    go_ret
    exact ⟨rfl, by (repeat' (first | assumption | exact Below.refl _ _ | apply Below.next_alloc | apply Below.drew | (apply Below.next; rotate_left; assumption)))⟩
theorem tpasses_any (w : World) (r : R) (sv : Nat → Value) (start t : Int) (hL : Lists w r sv) (hW : Wide r) :
    Calls Try.prog 9 #[ruleV r sv, .int .i64 start, .int .i64 t] w fun e w' => e = .returned (.bool (passT r start t)) ∧ Below w.heap.size w w' := by
  unfold passT
  cases hm : mayT r start
  · rw [Bool.false_and]
    exact tpasses_no w r sv start t hL hW hm
  · rw [Bool.true_and]
    obtain ⟨h0, h1, hc⟩ := may_parts hm
    obtain ⟨f1, f2, f3⟩ := fine_of hc
    have e1 := ch_short (told := toldH r) (s := start % 86400 / 3600) f1 (by omega) (by omega) (by omega)
    have e2 := ch_short (told := toldM r) (s := start % 86400 / 60 % 60) f2 (by omega) (by omega) (by omega)
    have e3 := ch_short (told := toldS r) (s := start % 60) f3 (by omega) (by omega) (by omega)
    exact passes_core w r sv start t _ _ _ _ _ _ (fun W hB => (set_yes W r sv start (hL.later hB) hW hm).mono fun e w' h => givesS h) e1.1 e2.1 e3.1
/-- what Of gives -/
def secsOf (r : R) (start a b : Int) : List Int := if mayT r start = true ∧ 0 ≤ a ∧ a ≤ b ∧ b ≤ 86400 then secs r start a b else []
theorem secsOf_le (r : R) (start a b : Int) : (secsOf r start a b).length ≤ 2000000 := by
  unfold secsOf
  split
  · rename_i h; exact secs_le r start a b h.1
  · simp
theorem tof_any (w : World) (r : R) (sv : Nat → Value) (start a b : Int) (hL : Lists w r sv) (hW : Wide r) :
    Calls Try.prog 12 #[ruleV r sv, .int .i64 start, .int .i64 a, .int .i64 b] w (Gives w (secsOf r start a b)) := by
  unfold secsOf
  cases hm : mayT r start
  · rw [if_neg (fun h => by cases h.1)]
    exact of_no w r sv start a b hL hW hm
  · by_cases hr : 0 ≤ a ∧ a ≤ b ∧ b ≤ 86400
    · rw [if_pos ⟨rfl, hr⟩]
      exact of_yes w r sv start a b hL hW hm hr.1 hr.2.1 hr.2.2
    · rw [if_neg (fun h => hr h.2)]
      exact of_out w r sv start a b hL hW hm (by omega)
theorem tcount_any (w : World) (r : R) (sv : Nat → Value) (start a b : Int) (hL : Lists w r sv) (hW : Wide r) :
    Calls Try.prog 15 #[ruleV r sv, .int .i64 start, .int .i64 a, .int .i64 b] w fun e w' => e = .returned (.int .i64 (secsOf r start a b).length) ∧ Below w.heap.size w w' := by
  have FC : ∀ W, Below w.heap.size w W → Calls Try.prog 12 #[ruleV r sv, .int .i64 start, .int .i64 a, .int .i64 b] W (Gives W (secsOf r start a b)) := fun W hB => tof_any W r sv start a b (hL.later hB) hW
  unfold ruleV ruleC at *
  replace FC := Lib.hid FC
  go_enter Try.func15, Try.ntmps15
  go_wp2_with (first
    | (go_at_call 12; (with_reducible refine (FC.out _ (by (repeat' (first | assumption | exact Below.refl _ _ | apply Below.next_alloc | apply Below.drew | (apply Below.next; rotate_left; assumption))))).mono ?_); rintro e w1 ⟨v, rfl, ho, hB1⟩; obtain ⟨av, c, rfl⟩ := ho.slice; clear ho))
  go_ret
  exact ⟨rfl, by (repeat' (first | assumption | exact Below.refl _ _ | apply Below.next_alloc | apply Below.drew | (apply Below.next; rotate_left; assumption)))⟩
end Go.Proofs.Ytndicgfafdhieaa.Tm
