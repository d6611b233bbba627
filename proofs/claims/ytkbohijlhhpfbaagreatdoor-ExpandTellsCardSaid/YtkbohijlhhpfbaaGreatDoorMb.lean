/- The walks through errandref11's small functions. -/
import Derived.Test.YtkbohijlhhpfbaaGreatDoorMa
namespace Go.Proofs.YtkbohijlhhpfbaaGreatDoor.Ma
open Go.RowKit Mo Ut Cw
theorem chk_of_why {k s c : Int} (h : why k s = c) (hc : c ≠ 0) : chk k s = c := by unfold chk; rw [h, if_pos hc]
theorem why_in {k s : Int} (h1 : 1 ≤ k) (h3 : k ≤ 3) (h0 : 0 ≤ s) (hm : s ≤ 315537897599) : why k s = 0 := by unfold why; rw [if_neg (by omega), if_neg (by omega)]
theorem why_kind {k s : Int} (h : k < 1 ∨ 3 < k) : why k s = 11 := by unfold why; rw [if_pos h]
theorem why_sec {k s : Int} (h1 : 1 ≤ k) (h3 : k ≤ 3) (h : s < 0 ∨ 315537897599 < s) : why k s = 8 := by unfold why; rw [if_neg (by omega), if_pos h]
theorem chk_in {k s : Int} (h : why k s = 0) : chk k s = if k = 1 ∧ s % 86400 ≠ 0 then 2 else 0 := by
  unfold chk; rw [if_neg (by omega)]; unfold secOf
  by_cases h1 : k = 1
  · rw [if_pos h1]
    by_cases h2 : s % 86400 = 0
    · rw [if_pos (by omega), if_neg (by omega)]
    · rw [if_neg (by omega), if_pos ⟨h1, h2⟩]
  · rw [if_neg h1, if_pos rfl, if_neg (by omega)]
set_option maxHeartbeats 1000000 in
theorem rcheck_any (k s : Int) (hk : 0 ≤ k ∧ k ≤ 255) (w : World) : Calls Tryz.prog 59 #[val k s] w fun e w' => e = .returned (.int .i64 (chk k s)) ∧ Below w.heap.size w w' := by
  unfold val
  by_cases h0 : k < 1
  · have hr := Lib.hid (chk_of_why (why_kind (s := s) (.inl h0)) (by decide))
    go_enter Tryz.func59, Tryz.ntmps59
    go_wp2
    go_ret
    exact ⟨ret_i hr.out.symm, by (repeat' (first | assumption | exact Below.refl _ _ | apply Below.next_alloc | apply Below.drew | (apply Below.next; rotate_left; assumption)))⟩
  · by_cases h3 : 3 < k
    · have hr := Lib.hid (chk_of_why (why_kind (s := s) (.inr h3)) (by decide))
      go_enter Tryz.func59, Tryz.ntmps59
      go_wp2
      go_ret
      exact ⟨ret_i hr.out.symm, by (repeat' (first | assumption | exact Below.refl _ _ | apply Below.next_alloc | apply Below.drew | (apply Below.next; rotate_left; assumption)))⟩
    · by_cases hs : s < 0
      · have hr := Lib.hid (chk_of_why (why_sec (k := k) (by omega) (by omega) (.inl hs)) (by decide))
        go_enter Tryz.func59, Tryz.ntmps59
        go_wp2
        go_ret
        exact ⟨ret_i hr.out.symm, by (repeat' (first | assumption | exact Below.refl _ _ | apply Below.next_alloc | apply Below.drew | (apply Below.next; rotate_left; assumption)))⟩
      · by_cases hm : 315537897599 < s
        · have hr := Lib.hid (chk_of_why (why_sec (k := k) (by omega) (by omega) (.inr hm)) (by decide))
          go_enter Tryz.func59, Tryz.ntmps59
          go_wp2
          go_ret
          exact ⟨ret_i hr.out.symm, by (repeat' (first | assumption | exact Below.refl _ _ | apply Below.next_alloc | apply Below.drew | (apply Below.next; rotate_left; assumption)))⟩
        · have hw := chk_in (why_in (k := k) (s := s) (by omega) (by omega) (by omega) (by omega))
          by_cases h1 : k = 1
          · subst h1
            by_cases hz : s % 86400 = 0
            · have hr := Lib.hid (hw.trans (if_neg (by omega)))
              clear hw
              go_enter Tryz.func59, Tryz.ntmps59
              go_wp2
              go_ret
              exact ⟨ret_i hr.out.symm, by (repeat' (first | assumption | exact Below.refl _ _ | apply Below.next_alloc | apply Below.drew | (apply Below.next; rotate_left; assumption)))⟩
            · have hr := Lib.hid (hw.trans (if_pos ⟨rfl, hz⟩))
              clear hw
              go_enter Tryz.func59, Tryz.ntmps59
              go_wp2
              go_ret
              exact ⟨ret_i hr.out.symm, by (repeat' (first | assumption | exact Below.refl _ _ | apply Below.next_alloc | apply Below.drew | (apply Below.next; rotate_left; assumption)))⟩
          · have hr := Lib.hid (hw.trans (if_neg (by omega)))
            clear hw
            go_enter Tryz.func59, Tryz.ntmps59
            go_wp2
            go_ret
            exact ⟨ret_i hr.out.symm, by (repeat' (first | assumption | exact Below.refl _ _ | apply Below.next_alloc | apply Below.drew | (apply Below.next; rotate_left; assumption)))⟩
theorem atV_ne {k s : Int} (h : why k s ≠ 0) : atV k s = val 0 0 := by unfold atV; rw [if_neg h]
theorem atV_in {k s : Int} (h : why k s = 0) : atV k s = val k (secOf k s) := by unfold atV; rw [if_pos h]
end Go.Proofs.YtkbohijlhhpfbaaGreatDoor.Ma
