/- The walks through recur's small functions. -/
import Derived.Test.YtndicgfafdhieaaRa
namespace Go.Proofs.Ytndicgfafdhieaa.Ra
open Go.RowKit Ru Ut Cw
set_option maxHeartbeats 1000000 in
theorem wdn_any (d : Int) (w : World) : Calls Try.prog 47 #[.int .i64 d] w fun e w' => (∃ s, e = .returned (.string s) ∧ (s.toList == []) = (decide (d < 0) || decide (6 < d))) ∧ w = w' := by
  by_cases h0 : d < 0
  · go_enter Try.func47, Try.ntmps47
    go_wp2
    go_ret
    exact ⟨⟨_, rfl, by first | (rw [ByteArray.toList_eq]; done) | (rw [ByteArray.toList_eq]; simp [h0]; done) | (rw [ByteArray.toList_eq]; simp; omega)⟩, rfl⟩
  · by_cases h6 : 6 < d
    · go_enter Try.func47, Try.ntmps47
      go_wp2
      go_ret
      exact ⟨⟨_, rfl, by first | (rw [ByteArray.toList_eq]; done) | (rw [ByteArray.toList_eq]; simp [h6]; done) | (rw [ByteArray.toList_eq]; simp; omega)⟩, rfl⟩
    · have hc : d = 0 ∨ d = 1 ∨ d = 2 ∨ d = 3 ∨ d = 4 ∨ d = 5 ∨ d = 6 := by omega
      clear h0 h6
      rcases hc with rfl | rfl | rfl | rfl | rfl | rfl | rfl
      all_goals
        go_enter Try.func47, Try.ntmps47
        go_wp2
        go_ret
        exact ⟨⟨_, rfl, by first | (rw [ByteArray.toList_eq]; done) | (rw [ByteArray.toList_eq]; rfl)⟩, rfl⟩
theorem absI_any (n : Int) (h1 : -9000000000000000000 ≤ n) (w : World) : Calls Try.prog 50 #[.int .i64 n] w fun e w' => e = .returned (.int .i64 (absI n)) ∧ w = w' := by
  by_cases h : n < 0
  · go_enter Try.func50, Try.ntmps50
    go_wp2
    go_ret
    exact ⟨ret_i (by unfold absI; rw [if_pos h]), rfl⟩
  · go_enter Try.func50, Try.ntmps50
    go_wp2
    go_ret
    exact ⟨ret_i (by unfold absI; rw [if_neg (by omega)]), rfl⟩
def endsV (q : Nat) : Value := .agg #[.int .i64 (lo q), .int .i64 (hi q), .bool (sg q)]
set_option maxHeartbeats 1000000 in
theorem within_any (q : Nat) (h4 : 4 ≤ q) (h12 : q ≤ 12) (h7 : q ≠ 7) (w : World) : Calls Try.prog 42 #[.int .i64 q] w fun e w' => e = .returned (endsV q) ∧ Below w.heap.size w w' := by
  have hc : q = 4 ∨ q = 5 ∨ q = 6 ∨ q = 8 ∨ q = 9 ∨ q = 10 ∨ q = 11 ∨ q = 12 := by omega
  clear h4 h12 h7
  rcases hc with rfl | rfl | rfl | rfl | rfl | rfl | rfl | rfl
  · go_enter Try.func42, Try.ntmps42
    go_wp2
    refine bodyPost_ret (v := endsV 4) (by simp [results, Try.results42, go_sem, endsV, lo, hi, sg]) rfl ?_
    exact ⟨rfl, by (repeat' (first | assumption | exact Below.refl _ _ | apply Below.next_alloc | apply Below.drew | (apply Below.next; rotate_left; assumption)))⟩
  · go_enter Try.func42, Try.ntmps42
    go_wp2
    refine bodyPost_ret (v := endsV 5) (by simp [results, Try.results42, go_sem, endsV, lo, hi, sg]) rfl ?_
    exact ⟨rfl, by (repeat' (first | assumption | exact Below.refl _ _ | apply Below.next_alloc | apply Below.drew | (apply Below.next; rotate_left; assumption)))⟩
  · go_enter Try.func42, Try.ntmps42
    go_wp2
    refine bodyPost_ret (v := endsV 6) (by simp [results, Try.results42, go_sem, endsV, lo, hi, sg]) rfl ?_
    exact ⟨rfl, by (repeat' (first | assumption | exact Below.refl _ _ | apply Below.next_alloc | apply Below.drew | (apply Below.next; rotate_left; assumption)))⟩
  · go_enter Try.func42, Try.ntmps42
    go_wp2
    refine bodyPost_ret (v := endsV 8) (by simp [results, Try.results42, go_sem, endsV, lo, hi, sg]) rfl ?_
    exact ⟨rfl, by (repeat' (first | assumption | exact Below.refl _ _ | apply Below.next_alloc | apply Below.drew | (apply Below.next; rotate_left; assumption)))⟩
  · go_enter Try.func42, Try.ntmps42
    go_wp2
    refine bodyPost_ret (v := endsV 9) (by simp [results, Try.results42, go_sem, endsV, lo, hi, sg]) rfl ?_
    exact ⟨rfl, by (repeat' (first | assumption | exact Below.refl _ _ | apply Below.next_alloc | apply Below.drew | (apply Below.next; rotate_left; assumption)))⟩
  · go_enter Try.func42, Try.ntmps42
    go_wp2
    refine bodyPost_ret (v := endsV 10) (by simp [results, Try.results42, go_sem, endsV, lo, hi, sg]) rfl ?_
    exact ⟨rfl, by (repeat' (first | assumption | exact Below.refl _ _ | apply Below.next_alloc | apply Below.drew | (apply Below.next; rotate_left; assumption)))⟩
  · go_enter Try.func42, Try.ntmps42
    go_wp2
    refine bodyPost_ret (v := endsV 11) (by simp [results, Try.results42, go_sem, endsV, lo, hi, sg]) rfl ?_
    exact ⟨rfl, by (repeat' (first | assumption | exact Below.refl _ _ | apply Below.next_alloc | apply Below.drew | (apply Below.next; rotate_left; assumption)))⟩
  · go_enter Try.func42, Try.ntmps42
    go_wp2
    refine bodyPost_ret (v := endsV 12) (by simp [results, Try.results42, go_sem, endsV, lo, hi, sg]) rfl ?_
    exact ⟨rfl, by (repeat' (first | assumption | exact Below.refl _ _ | apply Below.next_alloc | apply Below.drew | (apply Below.next; rotate_left; assumption)))⟩
theorem list_any (q b : Nat) (h4 : 4 ≤ q) (h12 : q ≤ 12) (h7 : q ≠ 7) (w : World) : Calls Try.prog 41 #[.pointer (some ⟨b, 0, none⟩), .int .i64 q] w fun e w' => e = .returned (.pointer (some ⟨b, q + 1, none⟩)) ∧ w = w' := by
  have hc : q = 4 ∨ q = 5 ∨ q = 6 ∨ q = 8 ∨ q = 9 ∨ q = 10 ∨ q = 11 ∨ q = 12 := by omega
  clear h4 h12 h7
  rcases hc with rfl | rfl | rfl | rfl | rfl | rfl | rfl | rfl
  all_goals
    go_enter Try.func41, Try.ntmps41
    go_wp2
    go_ret
    exact ⟨rfl, rfl⟩
end Go.Proofs.Ytndicgfafdhieaa.Ra
