/- The walks through slices.Contains over weekdays, and through recur's soundDays. -/
import Derived.Test.YtndicgfafdhieaaRc
import Derived.Test.YtndicgfafdhieaaMa
namespace Go.Proofs.Ytndicgfafdhieaa.Ra
open Go.RowKit Ru Ut Cw
theorem eqD (a b c d : Int) (W : World) : (Op.equalIn 10000 71 (.agg #[.int .i64 a, .int .i64 b]) (.agg #[.int .i64 c, .int .i64 d])).run Try.prog W = .ok (decide (a = c) && decide (b = d)) W := by
  rw [run_equalIn_struct W 9999 _ _ _ (by kernel_rfl) (by kernel_rfl)]
  by_cases h1 : a = c <;> by_cases h2 : b = d <;> simp [go_sem, Try.underlying71, Try.underlying3, h1, h2]
theorem eqD_no {a b c d : Int} (h : ¬ (a, b) = (c, d)) (W : World) : (Op.equalIn 10000 71 (.agg #[.int .i64 a, .int .i64 b]) (.agg #[.int .i64 c, .int .i64 d])).run Try.prog W = .ok false W := by
  rw [eqD]
  by_cases h1 : a = c
  · have h2 : ¬ b = d := fun h2 => h (by rw [h1, h2])
    simp [h2]
  · simp [h1]
theorem eqD_yes (a b : Int) (W : World) : (Op.equalIn 10000 71 (.agg #[.int .i64 a, .int .i64 b]) (.agg #[.int .i64 a, .int .i64 b])).run Try.prog W = .ok true W := by rw [eqD]; simp
theorem days_cells {w wr : World} {blk o : Nat} {l : List (Int × Int)} (hlt : blk < w.heap.size) (hc : ∀ i (h : i < l.length), w.cell? ⟨blk, o + i * 2, none⟩ = some (.int .i64 l[i].1) ∧ w.cell? ⟨blk, o + i * 2 + 1, none⟩ = some (.int .i64 l[i].2)) (hB : Below w.heap.size w wr) (k : Nat) (hk : k < l.length) :
    wr.cell? ⟨blk, o + k * 2, none⟩ = some (.int .i64 l[k].1) ∧ wr.cell? ⟨blk, o + k * 2 + 1, none⟩ = some (.int .i64 l[k].2) :=
  ⟨(hB.cell (p := ⟨blk, o + k * 2, none⟩) hlt).trans (hc k hk).1, (hB.cell (p := ⟨blk, o + k * 2 + 1, none⟩) hlt).trans (hc k hk).2⟩
set_option maxHeartbeats 2000000 in
theorem indexD_any {w : World} {v : Value} {l : List (Int × Int)} (x y : Int) (hl : Days w v l) (hn : l.length ≤ 1000000) :
    Calls Try.prog 57 #[v, .agg #[.int .i64 x, .int .i64 y]] w fun e w' => (∃ i : Int, e = .returned (.int .i64 i) ∧ decide (0 ≤ i) = decide ((x, y) ∈ l)) ∧ Below w.heap.size w w' := by
  rcases hl with ⟨rfl, a, cap, rfl, ha⟩ | ⟨h0, b, o, cap, rfl, hlt, hcap, hcell⟩
  · go_enter Try.func57, Try.ntmps57
    go_wp2
    refine wp_loop_rounds 1 ?_
    rw [rounds_succ]
    go_wp2
    go_ret
    exact ⟨⟨_, rfl, by simp⟩, by (repeat' (first | assumption | exact Below.refl _ _ | apply Below.next_alloc | apply Below.drew | (apply Below.next; rotate_left; assumption)))⟩
  · have HC := Lib.hid hcell
    clear hcell
    go_enter Try.func57, Try.ntmps57
    go_wp2
    go_loopw [8] (fun i wr => ∃ k : Nat, k ≤ l.length ∧ i = .int .i64 k ∧ Hid ((x, y) ∉ l.take k) ∧ Hid (Below (w.alloc (.cells #[.int .i64 x, .int .i64 y] 71)).heap.size (w.alloc (.cells #[.int .i64 x, .int .i64 y] 71)) wr)) (fun i _ => l.length - (intOf i).toNat)
    case atStart => exact ⟨0, by omega, rfl, Lib.hid (by simp), Lib.hid (Below.refl _ _)⟩
    case round =>
      obtain ⟨k, k1, rfl, hx, hB⟩ := hrel
      by_cases hk : k < l.length
      · obtain ⟨c1, c2⟩ := days_cells hlt HC.out (Below.next_allocs' hB.out) k hk
        obtain ⟨hlt3, e0, e1⟩ := Ma.boxed hB.out
        have i2 : (k : Int) < (l.length : Int) := by omega
        have i3 : (0 : Int) ≤ (k : Int) := by omega
        by_cases he : (x, y) = l[k]
        · have hm := Lib.hid (show (x, y) ∈ l by rw [he]; exact List.getElem_mem hk)
          rw [← he] at c1 c2
          have hE := eqD_yes x y
          clear he
          go_wp2
          go_quiet (fail)
          go_wp2
          go_ret
          exact ⟨⟨_, rfl, by rw [decide_eq_true (by omega), decide_eq_true hm.out]⟩, Base.below_drewN (Below.next_allocs' hB.out) _⟩
        · have hx2 := Lib.hid (show (x, y) ∉ l.take (k + 1) by
            rw [List.take_succ_eq_append_getElem hk, List.mem_append]
            rintro (h | h)
            · exact hx.out h
            · exact he (List.mem_singleton.1 h))
          have hE := eqD_no (a := x) (b := y) (c := l[k].1) (d := l[k].2) he
          clear he hx
          go_wp2
          go_quiet (fail)
          go_wp2
          go_roundw
          case rel => exact ⟨k + 1, by omega, by go_num, hx2, Lib.hid (Base.below_drewN hB.out _)⟩
          case measure => simp [intOf]; omega
      · have hm := Lib.hid (show (x, y) ∉ l by have := hx.out; rwa [List.take_of_length_le (by omega)] at this)
        go_wp2
        go_ret
        exact ⟨⟨_, rfl, by rw [decide_eq_false hm.out]; rfl⟩, Below.next_allocs' hB.out⟩
theorem containsD_any {w : World} {v : Value} {l : List (Int × Int)} (x y : Int) (hl : Days w v l) (hn : l.length ≤ 1000000) :
    Calls Try.prog 49 #[v, .agg #[.int .i64 x, .int .i64 y]] w fun e w' => e = .returned (.bool (decide ((x, y) ∈ l))) ∧ Below w.heap.size w w' := by
  have F := Lib.hid (indexD_any (w := w.alloc (.cells #[.int .i64 x, .int .i64 y] 71)) x y (hl.below (Below.next_alloc (Below.refl _ w) _)) hn)
  have hv : ∃ a m c, v = .slice a m c := by
    rcases hl with ⟨_, a, cap, rfl, _⟩ | ⟨_, b, o, cap, rfl, _⟩
    · exact ⟨_, _, _, rfl⟩
    · exact ⟨_, _, _, rfl⟩
  obtain ⟨a, m, c, rfl⟩ := hv
  clear hl
  go_enter Try.func49, Try.ntmps49
  go_wp2_with (first | (go_at_call 57; refine (F.out).mono ?_; rintro e w' ⟨⟨i, rfl, hi⟩, hB⟩))
  go_ret
  exact ⟨rfl, Below.next_allocs' hB⟩
end Go.Proofs.Ytndicgfafdhieaa.Ra
