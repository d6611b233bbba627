/- The walk through errandlaw23's awake (printed by gen_awake.py). -/
import Derived.Test.YtpfimkjfonijcaaDoorFb
import Derived.ChangeKeysEq
namespace Go.Proofs.YtpfimkjfonijcaaDoor.Da
open Go.RowKit Ru Ut Cw Ra
theorem eq4 (a b c d a' b' c' d' : Int) (W : World) : (Op.equalIn 10000 37 (.agg #[.int .i64 a, .int .i64 b, .int .i64 c, .int .i64 d]) (.agg #[.int .i64 a', .int .i64 b', .int .i64 c', .int .i64 d'])).run Tryd.prog W = .ok (decide (a = a') && (decide (b = b') && (decide (c = c') && decide (d = d')))) W := by
  obtain ⟨i, hi⟩ : ∃ i, Tryd.prog.info? 3 = some i := Option.isSome_iff_exists.1 (by kernel_rfl)
  have hc : Tryd.prog.cellsOf 3 = 1 := by kernel_rfl
  rw [run_equalIn_array W 9999 _ _ Tryd.underlying37 hi, hc]
  have hr : List.range 4 = [0, 1, 2, 3] := rfl
  rw [hr]
  simp [Op.eqItems, go_sem, Tryd.underlying3]
  by_cases h1 : a = a' <;> by_cases h2 : b = b' <;> by_cases h3 : c = c' <;> by_cases h4 : d = d' <;> simp [h1, h2, h3, h4]
theorem Below.next_allocs'' {w W : World} {o p : Obj} (h : Below ((w.alloc o).alloc p).heap.size ((w.alloc o).alloc p) W) : Below (w.alloc o).heap.size (w.alloc o) W := Below.next_allocs' h
set_option maxHeartbeats 8000000 in
set_option maxRecDepth 100000 in
theorem awake_any (w : World) (hT : Tab w) : Calls Tryd.prog 8 #[] w fun e w' => e = .returned (.bool true) ∧ Below w.heap.size w w' := by
  have HT := Lib.hid hT
  have A1 := Lib.hid aw_of1
  have A2 := Lib.hid aw_of2
  have P0 := Lib.hid aw_p0
  have P3 := Lib.hid aw_p3
  have NT := Lib.hid aw_nth
  have hE := fun W => eq4 4 (-1) 4 (-49) 4 (-1) 4 (-49) W
  simp only [decide_true, Bool.and_self] at hE
  clear hT
  go_enter Tryd.func8, Tryd.ntmps8
  go_wp2_with (first
    | (go_at_call 15; (with_reducible refine (A1.out _ w.heap.size (HT.out.later (by (repeat' (first | assumption | exact Below.refl _ _ | apply Below.next_alloc | apply Below.drew | (apply Below.next; rotate_left; assumption))))) (by simp only [World.size_alloc]; omega) ((own_two w _ _ _ 0).trans rfl) ((own_two w _ _ _ 1).trans rfl)).mono ?_); rintro e w1 ⟨v1, rfl, hO1, hB1⟩; have b1 := Lib.hid (Below.next_allocs' (Below.next_allocs'' hB1)); obtain ⟨g1, p1, rfl, hg1, hc1⟩ := OwnI.pos hO1 (by decide); have q1 := hc1 0 738910 rfl; clear hc1 hO1 A1)
    | (go_at_call 15; (with_reducible refine (A2.out _ (HT.out.later b1.out)).mono ?_); rintro e w2 ⟨v2, rfl, hO2, hB2⟩; have b2 := Lib.hid (Below.next b1.out hB2); obtain ⟨g2, p2, rfl, hg2, hc2⟩ := OwnI.pos hO2 (by decide); have q2 := hc2 1 738974 rfl; have q3 := (hB2.cell (p := ⟨g1, 0, none⟩) hg1).trans q1; clear hc2 hO2)
    | (go_at_call 12; (with_reducible refine (NT.out _ (HT.out.later b2.out)).mono ?_); rintro e w3 ⟨rfl, hB3⟩; have b3 := Lib.hid (Below.next b2.out hB3))
    | (go_at_call 9; (with_reducible refine (P0.out _ (HT.out.later b3.out)).mono ?_); rintro e w4 ⟨rfl, hB4⟩; have b4 := Lib.hid (Below.next b3.out hB4))
    | (go_at_call 9; (with_reducible refine (P3.out _ (HT.out.later b4.out)).mono ?_); rintro e w5 ⟨rfl, hB5⟩; have b5 := Lib.hid (Below.next b4.out hB5)))
  go_ret
  exact ⟨rfl, b5.out⟩
end Go.Proofs.YtpfimkjfonijcaaDoor.Da
