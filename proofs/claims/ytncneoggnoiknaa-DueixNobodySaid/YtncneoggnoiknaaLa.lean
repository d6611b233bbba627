/- The walk through DueixNobody. -/
import Derived.Test.YtncneoggnoiknaaAx
namespace Go.Proofs.Ytncneoggnoiknaa.Du
open Go.RowKit Sp Ut Me
set_option maxHeartbeats 8000000 in
set_option maxRecDepth 100000 in
theorem nobody_any (x : Int) (s : ByteArray) (y : Int) (t : ByteArray) (w : World) : Calls Try.prog 4 #[.agg #[.int .i64 x, .string s], .agg #[.int .i64 y, .string t]] w fun e w' => e = .returned (.bool true) ∧ Below w.heap.size w w' := by
  by_cases h1 : s.size ≤ 30
  · by_cases h2 : t.size ≤ 30
    · have CN := Lib.hid (show ∀ W, Calls Try.prog 16 #[.pointer none, .agg #[.int .i64 x, .string s]] W fun e w' => e = .returned (.tuple #[.agg #[.int .i64 0, .string ⟨#[]⟩], .bool false]) ∧ Below W.heap.size W w' from fun W => after_nil x s W)
      obtain ⟨q, hq⟩ : ∃ q, less (x, s) (y, t) = q := ⟨_, rfl⟩
      have FL := Lib.hid (less_at x y s t q hq)
      have FR := Lib.hid (rless_at x y s t q hq)
      clear hq
      have EQ := fun W => eqD_is (x := 0) (y := 0) (s := ⟨#[]⟩) (t := ⟨#[]⟩) (q := true) (by decide +kernel) W
      go_enter Try.func4, Try.ntmps4
      go_wp2_with (go_at_call 16; (with_reducible refine (CN.out _).mono ?_); rintro e w1 ⟨rfl, hB1⟩)
      obtain ⟨z0, d0, d1⟩ := boxed2 (w := w) (a := .int .i64 x) (b := .string s) (t := 30) (w1 := w1) (by (repeat' (first | assumption | exact Below.refl _ _ | apply Below.next_alloc | apply Below.drew | (apply Below.next; rotate_left; assumption))))
      obtain ⟨z1, d2, d3⟩ := boxed2 (w := w.alloc (.cells #[.int .i64 x, .string s] 30)) (a := .int .i64 y) (b := .string t) (t := 30) (w1 := w1) (by (repeat' (first | assumption | exact Below.refl _ _ | apply Below.next_alloc | apply Below.drew | (apply Below.next; rotate_left; assumption))))
      obtain ⟨z2, d4, d5⟩ := boxed2 (w := (w.alloc (.cells #[.int .i64 x, .string s] 30)).alloc (.cells #[.int .i64 y, .string t] 30)) (a := .int .i64 x) (b := .string s) (t := 29) (w1 := w1) (by (repeat' (first | assumption | exact Below.refl _ _ | apply Below.next_alloc | apply Below.drew | (apply Below.next; rotate_left; assumption))))
      have hB : Below w.heap.size w w1 := by (repeat' (first | assumption | exact Below.refl _ _ | apply Below.next_alloc | apply Below.drew | (apply Below.next; rotate_left; assumption)))
      rw [World.size_alloc] at z1 d2 d3
      rw [World.size_alloc, World.size_alloc] at z2 d4 d5
      have HB := Lib.hid hB
      clear hB hB1
      go_wp2
      have hW : Below w1.heap.size w1 (w1.alloc (.cells #[.int .i64 0, .string ⟨#[]⟩] 29)) := (Below.refl _ _).alloc (Nat.le_refl _) _
      obtain ⟨z3, d6, d7⟩ := boxed2 (w := w1) (a := .int .i64 0) (b := .string ⟨#[]⟩) (t := 29) (Below.refl _ _)
      replace d0 := (hW.cell (p := ⟨w.heap.size, 0, none⟩) z0).trans d0
      replace d1 := (hW.cell (p := ⟨w.heap.size, 1, none⟩) z0).trans d1
      replace d2 := (hW.cell (p := ⟨w.heap.size + 1, 0, none⟩) z1).trans d2
      replace d3 := (hW.cell (p := ⟨w.heap.size + 1, 1, none⟩) z1).trans d3
      replace d4 := (hW.cell (p := ⟨w.heap.size + 1 + 1, 0, none⟩) z2).trans d4
      replace d5 := (hW.cell (p := ⟨w.heap.size + 1 + 1, 1, none⟩) z2).trans d5
      replace z0 := Nat.lt_of_lt_of_le z0 hW.size
      replace z1 := Nat.lt_of_lt_of_le z1 hW.size
      replace z2 := Nat.lt_of_lt_of_le z2 hW.size
      have HBW := Lib.hid (HB.out.trans (hW.mono HB.out.size))
      generalize w1.alloc (.cells #[.int .i64 0, .string ⟨#[]⟩] 29) = W1 at *
      have SL := Lib.hid (show ∀ W, Below W1.heap.size W1 W → W.cell? ⟨w.heap.size, 0, none⟩ = some (.int .i64 x) ∧ W.cell? ⟨w.heap.size, 1, none⟩ = some (.string s) ∧ W.cell? ⟨w.heap.size + 1, 0, none⟩ = some (.int .i64 y) ∧ W.cell? ⟨w.heap.size + 1, 1, none⟩ = some (.string t) ∧ W.cell? ⟨w.heap.size + 1 + 1, 0, none⟩ = some (.int .i64 x) ∧ W.cell? ⟨w.heap.size + 1 + 1, 1, none⟩ = some (.string s) ∧ W.cell? ⟨w1.heap.size, 0, none⟩ = some (.int .i64 0) ∧ W.cell? ⟨w1.heap.size, 1, none⟩ = some (.string ⟨#[]⟩) from fun W hW =>
          ⟨(hW.cell (p := ⟨w.heap.size, 0, none⟩) z0).trans d0, (hW.cell (p := ⟨w.heap.size, 1, none⟩) z0).trans d1, (hW.cell (p := ⟨w.heap.size + 1, 0, none⟩) z1).trans d2, (hW.cell (p := ⟨w.heap.size + 1, 1, none⟩) z1).trans d3, (hW.cell (p := ⟨w.heap.size + 1 + 1, 0, none⟩) z2).trans d4, (hW.cell (p := ⟨w.heap.size + 1 + 1, 1, none⟩) z2).trans d5, (hW.cell (p := ⟨w1.heap.size, 0, none⟩) z3).trans d6, (hW.cell (p := ⟨w1.heap.size, 1, none⟩) z3).trans d7⟩)
      clear d0 d1 d2 d3 d4 d5 d6 d7 hW
      go_region_held3 (fun w' => w'.cell? ⟨w.heap.size, 0, none⟩ = some (.int .i64 x) ∧ w'.cell? ⟨w.heap.size, 1, none⟩ = some (.string s) ∧ w'.cell? ⟨w.heap.size + 1, 0, none⟩ = some (.int .i64 y) ∧ w'.cell? ⟨w.heap.size + 1, 1, none⟩ = some (.string t) ∧ w'.cell? ⟨w.heap.size + 1 + 1, 0, none⟩ = some (.int .i64 x) ∧ w'.cell? ⟨w.heap.size + 1 + 1, 1, none⟩ = some (.string s) ∧ w'.cell? ⟨w1.heap.size, 0, none⟩ = some (.int .i64 0) ∧ w'.cell? ⟨w1.heap.size, 1, none⟩ = some (.string ⟨#[]⟩)) (first | ((with_reducible refine SL.out _ ?_); (with_reducible (repeat' (first | assumption | exact Below.refl _ _ | apply Below.next_alloc | apply Below.drew | (apply Below.next; rotate_left; assumption)))); done) | go_keep)
        (first
          | (go_at_call 13; (with_reducible refine (put_nil _ _ _).mono ?_); rintro e u1 ⟨rfl, hU1⟩)
          | (go_at_call 15; (with_reducible refine (drop_nil _ _ _).mono ?_); rintro e u2 ⟨rfl, hU2⟩)
          | (go_at_call 10; (with_reducible refine (has_nil _ _ _).mono ?_); rintro e u3 ⟨rfl, hU3⟩)
          | (go_at_call 22; (with_reducible refine (len_nil _).mono ?_); rintro e u4 ⟨rfl, rfl⟩)
          | (go_at_call 23; (with_reducible refine (all_nil _).mono ?_); rintro e u5 ⟨rfl, rfl⟩)
          | (go_at_call 20; (with_reducible refine (between_nil _ _ _).mono ?_); rintro e u6 ⟨vu, rfl, ho6, hU6⟩; obtain ⟨a6, c6, rfl⟩ := ho6.ents.slice; clear ho6)
          | (go_at_call 24; (with_reducible refine (FL.out _).mono ?_); rintro e u7 ⟨rfl, hU7⟩)
          | (go_at_call 25; (with_reducible refine (FR.out _).mono ?_); rintro e u8 ⟨rfl, hU8⟩)
          | (go_at_call 8; (with_reducible refine (awake_any _).mono ?_); rintro e u9 ⟨rfl, hU9⟩))
      go_wp2
      go_ret
      exact ⟨by simp, Below.next HBW.out (by (repeat' (first | assumption | exact Below.refl _ _ | apply Below.next_alloc | apply Below.drew | (apply Below.next; rotate_left; assumption))))⟩
    · go_enter Try.func4, Try.ntmps4
      go_wp2_with (go_at_call 8; (with_reducible refine (awake_any _).mono ?_); rintro e w1 ⟨rfl, hB1⟩)
      go_ret
      exact ⟨rfl, by (repeat' (first | assumption | exact Below.refl _ _ | apply Below.next_alloc | apply Below.drew | (apply Below.next; rotate_left; assumption)))⟩
  · go_enter Try.func4, Try.ntmps4
    go_wp2_with (go_at_call 8; (with_reducible refine (awake_any _).mono ?_); rintro e w1 ⟨rfl, hB1⟩)
    go_ret
    exact ⟨rfl, by (repeat' (first | assumption | exact Below.refl _ _ | apply Below.next_alloc | apply Below.drew | (apply Below.next; rotate_left; assumption)))⟩
end Go.Proofs.Ytncneoggnoiknaa.Du
