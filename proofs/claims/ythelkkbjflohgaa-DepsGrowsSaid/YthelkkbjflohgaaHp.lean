/- Add once more: an edge that is taken in makes a new row, one that is not leaves the row (the walk of Gh, a stronger end). -/
import Derived.Test.YthelkkbjflohgaaHn
namespace Go.Proofs.Ythelkkbjflohgaa.Ds
open Go.RowKit Ut Gr Go.Maps
/-- what Add tells; the row is as it was, or the call's own -/
def GivesA2 (w : World) (v : Value) (r : List (ByteArray × ByteArray) × Int) (e : Ending) (w' : World) : Prop := ∃ u, e = .returned (.tuple #[u, .int .i64 r.2]) ∧ (u ≠ v → OwnE 44 w' w.heap.size u r.1) ∧ Edgs w' u r.1 ∧ Below w.heap.size w w'
set_option maxHeartbeats 4000000 in
set_option maxRecDepth 100000 in
theorem add2_any {w : World} {v : Value} {l : List (ByteArray × ByteArray)} (x y : ByteArray) (hl : Edgs w v l) (hn : l.length ≤ 1000) (hz : Short l) (hx : x.size ≤ maxLen) : Calls Try.prog 21 #[v, .agg #[.string x, .string y]] w (GivesA2 w v (addL l (x, y))) := by
  have FC := Lib.hid (fun W (hB : Below w.heap.size w W) => containsE_any (w := W) x y (hl.below hB) (by omega))
  have FR := Lib.hid (fun W (hB : Below w.heap.size w W) => reach_any (w := W) y x (hl.below hB) hn hz hx)
  have HL := Lib.hid hl
  obtain ⟨a, c, rfl⟩ := hl.slice
  clear hl hz
  unfold addL loops
  generalize isIn (x, y) l = i at *
  cases i
  rotate_left
  · rw [if_pos rfl]
    go_enter Try.func21, Try.ntmps21
    go_wp2_with (first
      | (go_at_call 40; (with_reducible refine (FC.out _ (by (repeat' (first | assumption | exact Below.refl _ _ | apply Below.next_alloc | apply Below.drew | (apply Below.next; rotate_left; assumption))))).mono ?_); rintro e w1 ⟨rfl, hB1⟩))
    go_ret2
    exact ⟨_, rfl, fun h => absurd rfl h, HL.out.below (next_allocs hB1), next_allocs hB1⟩
  rw [if_neg (by decide)]
  by_cases he : x = y
  · have hr := Lib.hid he
    simp only [decide_eq_true he, Bool.true_or, if_true]
    subst he
    go_enter Try.func21, Try.ntmps21
    go_wp2_with (first
      | (go_at_call 40; (with_reducible refine (FC.out _ (by (repeat' (first | assumption | exact Below.refl _ _ | apply Below.next_alloc | apply Below.drew | (apply Below.next; rotate_left; assumption))))).mono ?_); rintro e w1 ⟨rfl, hB1⟩; obtain ⟨hlt, e0, e1⟩ := boxed2 hB1))
    go_ret2
    exact ⟨_, rfl, fun h => absurd rfl h, HL.out.below (next_allocs hB1), next_allocs hB1⟩
  rw [decide_eq_false he, Bool.false_or]
  have hq := eqS_no he
  clear he
  generalize way l y x = r at *
  cases r
  rotate_left
  · rw [if_pos rfl]
    go_enter Try.func21, Try.ntmps21
    go_wp2_with (first
      | (go_at_call 40; (with_reducible refine (FC.out _ (by (repeat' (first | assumption | exact Below.refl _ _ | apply Below.next_alloc | apply Below.drew | (apply Below.next; rotate_left; assumption))))).mono ?_); rintro e w1 ⟨rfl, hB1⟩; obtain ⟨hlt, e0, e1⟩ := boxed2 hB1; have b1 := Lib.hid (next_allocs hB1))
      | (go_at_call 13; (with_reducible refine (FR.out _ b1.out).mono ?_); rintro e w2 ⟨rfl, hB2⟩))
    go_ret2
    exact ⟨_, rfl, fun h => absurd rfl h, HL.out.below (Below.next b1.out hB2), Below.next b1.out hB2⟩
  rw [if_neg (by decide)]
  go_enter Try.func21, Try.ntmps21
  go_wp2_with (first
    | (go_at_call 40; (with_reducible refine (FC.out _ (by (repeat' (first | assumption | exact Below.refl _ _ | apply Below.next_alloc | apply Below.drew | (apply Below.next; rotate_left; assumption))))).mono ?_); rintro e w1 ⟨rfl, hB1⟩; obtain ⟨hlt, e0, e1⟩ := boxed2 hB1; have b1 := Lib.hid (next_allocs hB1))
    | (go_at_call 13; (with_reducible refine (FR.out _ b1.out).mono ?_); rintro e w2 ⟨rfl, hB2⟩; have b2 := Lib.hid (Below.next b1.out hB2); have q0 := (hB2.cell (p := ⟨w.heap.size, 0, none⟩) hlt).trans e0; have q1 := (hB2.cell (p := ⟨w.heap.size, 1, none⟩) hlt).trans e1; have hlt2 := Nat.lt_of_lt_of_le hlt hB2.size)
    | (refine make_edges rfl _ _ rfl l.length rfl rfl (by omega) ?_; intro w3 hF3)
    | (refine copy_edges rfl _ _ rfl l _ rfl rfl hF3 (HL.out.below (Below.next b2.out hF3.below)) (by omega) ?_; intro w4 hown4 hB4; have r0 := (hB4.cell (p := ⟨w.heap.size, 0, none⟩) hlt2).trans q0; have r1 := (hB4.cell (p := ⟨w.heap.size, 1, none⟩) hlt2).trans q1)
    | (at_builtin; refine push_edge infoE Try.underlying28 rfl _ _ rfl w2.heap.size _ l rfl hown4 rfl (by omega) hB4.size ?_; intro v5 w5 hown5 hB5))
  go_ret2
  exact ⟨_, rfl, fun _ => hown5.base b2.out.size, hown5.edgs, Below.next b2.out (hB4.trans hB5)⟩
end Go.Proofs.Ythelkkbjflohgaa.Ds
