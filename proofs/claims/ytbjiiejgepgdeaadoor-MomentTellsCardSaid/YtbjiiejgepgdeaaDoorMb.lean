/- The walks through errandref11's small functions. -/
import Derived.Test.YtbjiiejgepgdeaaDoorMa
namespace Go.Proofs.YtbjiiejgepgdeaaDoor.Ma
open Go.RowKit Mo Ut Cw
theorem chk_of_why {k s c : Int} (h : why k s = c) (hc : c ≠ 0) : chk k s = c := by unfold chk; rw [h, if_pos hc]
theorem why_in {k s : Int} (h1 : 1 ≤ k) (h3 : k ≤ 3) (h0 : 0 ≤ s) (hm : s ≤ 315537897599) : why k s = 0 := by unfold why; rw [if_neg (by omega), if_neg (by omega)]
theorem why_kind {k s : Int} (h : k < 1 ∨ 3 < k) : why k s = 11 := by unfold why; rw [if_pos h]
theorem why_sec {k s : Int} (h1 : 1 ≤ k) (h3 : k ≤ 3) (h : s < 0 ∨ 315537897599 < s) : why k s = 8 := by unfold why; rw [if_neg (by omega), if_pos h]
theorem chk_in {k s : Int} (h : why k s = 0) : chk k s = if k = 1 ∧ s % 86400 ≠ 0 then 2 else 0 := by
  unfold chk; rw [if_neg (by omega)]; unfold secOf
  by_cases h1 : k = 1
  · rw [if_pos h1]
    by_cases h2 : s % 86400 = 0
    · rw [if_pos (by omega), if_neg (by omega)]
    · rw [if_neg (by omega), if_pos ⟨h1, h2⟩]
  · rw [if_neg h1, if_pos rfl, if_neg (by omega)]
set_option maxHeartbeats 1000000 in
theorem rcheck_any (k s : Int) (hk : 0 ≤ k ∧ k ≤ 255) (w : World) : Calls Tryd.prog 17 #[val k s] w fun e w' => e = .returned (.int .i64 (chk k s)) ∧ Below w.heap.size w w' := by
  unfold val
  by_cases h0 : k < 1
  · have hr := Lib.hid (chk_of_why (why_kind (s := s) (.inl h0)) (by decide))
    go_enter Tryd.func17, Tryd.ntmps17
    go_wp2
    go_ret
    exact ⟨ret_i hr.out.symm, by (repeat' (first | assumption | exact Below.refl _ _ | apply Below.next_alloc | apply Below.drew | (apply Below.next; rotate_left; assumption)))⟩
  · by_cases h3 : 3 < k
    · have hr := Lib.hid (chk_of_why (why_kind (s := s) (.inr h3)) (by decide))
      go_enter Tryd.func17, Tryd.ntmps17
      go_wp2
      go_ret
      exact ⟨ret_i hr.out.symm, by (repeat' (first | assumption | exact Below.refl _ _ | apply Below.next_alloc | apply Below.drew | (apply Below.next; rotate_left; assumption)))⟩
    · by_cases hs : s < 0
      · have hr := Lib.hid (chk_of_why (why_sec (k := k) (by omega) (by omega) (.inl hs)) (by decide))
        go_enter Tryd.func17, Tryd.ntmps17
        go_wp2
        go_ret
        exact ⟨ret_i hr.out.symm, by (repeat' (first | assumption | exact Below.refl _ _ | apply Below.next_alloc | apply Below.drew | (apply Below.next; rotate_left; assumption)))⟩
      · by_cases hm : 315537897599 < s
        · have hr := Lib.hid (chk_of_why (why_sec (k := k) (by omega) (by omega) (.inr hm)) (by decide))
          go_enter Tryd.func17, Tryd.ntmps17
          go_wp2
          go_ret
          exact ⟨ret_i hr.out.symm, by (repeat' (first | assumption | exact Below.refl _ _ | apply Below.next_alloc | apply Below.drew | (apply Below.next; rotate_left; assumption)))⟩
        · have hw := chk_in (why_in (k := k) (s := s) (by omega) (by omega) (by omega) (by omega))
          by_cases h1 : k = 1
          · subst h1
            by_cases hz : s % 86400 = 0
            · have hr := Lib.hid (hw.trans (if_neg (by omega)))
              clear hw
              go_enter Tryd.func17, Tryd.ntmps17
              go_wp2
              go_ret
              exact ⟨ret_i hr.out.symm, by (repeat' (first | assumption | exact Below.refl _ _ | apply Below.next_alloc | apply Below.drew | (apply Below.next; rotate_left; assumption)))⟩
            · have hr := Lib.hid (hw.trans (if_pos ⟨rfl, hz⟩))
              clear hw
              go_enter Tryd.func17, Tryd.ntmps17
              go_wp2
              go_ret
              exact ⟨ret_i hr.out.symm, by (repeat' (first | assumption | exact Below.refl _ _ | apply Below.next_alloc | apply Below.drew | (apply Below.next; rotate_left; assumption)))⟩
          · have hr := Lib.hid (hw.trans (if_neg (by omega)))
            clear hw
            go_enter Tryd.func17, Tryd.ntmps17
            go_wp2
            go_ret
            exact ⟨ret_i hr.out.symm, by (repeat' (first | assumption | exact Below.refl _ _ | apply Below.next_alloc | apply Below.drew | (apply Below.next; rotate_left; assumption)))⟩
theorem atV_ne {k s : Int} (h : why k s ≠ 0) : atV k s = val 0 0 := by unfold atV; rw [if_neg h]
theorem atV_in {k s : Int} (h : why k s = 0) : atV k s = val k (secOf k s) := by unfold atV; rw [if_pos h]
set_option maxHeartbeats 1000000 in
theorem rat_any (k s : Int) (hk : 0 ≤ k ∧ k ≤ 255) (w : World) : Calls Tryd.prog 15 #[.int .u8 k, .int .i64 s] w fun e w' => e = .returned (.tuple #[atV k s, .int .i64 (why k s)]) ∧ Below w.heap.size w w' := by
  by_cases h0 : k < 1
  · have hw := why_kind (s := s) (.inl h0)
    have hr := Lib.hid (atV_ne (k := k) (s := s) (by omega))
    have hw := Lib.hid hw
    go_enter Tryd.func15, Tryd.ntmps15
    go_wp2
    refine bodyPost_ret (v := .tuple #[val 0 0, .int .i64 11]) (by simp [results, Tryd.results15, go_sem, val]) rfl ?_
    exact ⟨ret_a hr.out.symm (by first | rfl | exact hw.out.symm), by (repeat' (first | assumption | exact Below.refl _ _ | apply Below.next_alloc | apply Below.drew | (apply Below.next; rotate_left; assumption)))⟩
  · by_cases h3 : 3 < k
    · have hw := why_kind (s := s) (.inr h3)
      have hr := Lib.hid (atV_ne (k := k) (s := s) (by omega))
      have hw := Lib.hid hw
      go_enter Tryd.func15, Tryd.ntmps15
      go_wp2
      refine bodyPost_ret (v := .tuple #[val 0 0, .int .i64 11]) (by simp [results, Tryd.results15, go_sem, val]) rfl ?_
      exact ⟨ret_a hr.out.symm (by first | rfl | exact hw.out.symm), by (repeat' (first | assumption | exact Below.refl _ _ | apply Below.next_alloc | apply Below.drew | (apply Below.next; rotate_left; assumption)))⟩
    · by_cases hs : s < 0
      · have hw := why_sec (k := k) (by omega) (by omega) (.inl hs)
        have hr := Lib.hid (atV_ne (k := k) (s := s) (by omega))
        have hw := Lib.hid hw
        go_enter Tryd.func15, Tryd.ntmps15
        go_wp2
        refine bodyPost_ret (v := .tuple #[val 0 0, .int .i64 8]) (by simp [results, Tryd.results15, go_sem, val]) rfl ?_
        exact ⟨ret_a hr.out.symm (by first | rfl | exact hw.out.symm), by (repeat' (first | assumption | exact Below.refl _ _ | apply Below.next_alloc | apply Below.drew | (apply Below.next; rotate_left; assumption)))⟩
      · by_cases hm : 315537897599 < s
        · have hw := why_sec (k := k) (by omega) (by omega) (.inr hm)
          have hr := Lib.hid (atV_ne (k := k) (s := s) (by omega))
          have hw := Lib.hid hw
          go_enter Tryd.func15, Tryd.ntmps15
          go_wp2
          refine bodyPost_ret (v := .tuple #[val 0 0, .int .i64 8]) (by simp [results, Tryd.results15, go_sem, val]) rfl ?_
          exact ⟨ret_a hr.out.symm (by first | rfl | exact hw.out.symm), by (repeat' (first | assumption | exact Below.refl _ _ | apply Below.next_alloc | apply Below.drew | (apply Below.next; rotate_left; assumption)))⟩
        · have hw := why_in (k := k) (s := s) (by omega) (by omega) (by omega) (by omega)
          have hr := Lib.hid (atV_in (k := k) (s := s) (by omega))
          have hw := Lib.hid hw
          by_cases h1 : k = 1
          · subst h1
            go_enter Tryd.func15, Tryd.ntmps15
            go_wp2
            refine bodyPost_ret (v := .tuple #[val 1 (s / 86400 * 86400), .int .i64 0]) (by simp [results, Tryd.results15, go_sem, val]) rfl ?_
            exact ⟨ret_a (by rw [hr.out]; unfold secOf; rw [if_pos rfl]; congr 1; omega) (by first | rfl | exact hw.out.symm), by (repeat' (first | assumption | exact Below.refl _ _ | apply Below.next_alloc | apply Below.drew | (apply Below.next; rotate_left; assumption)))⟩
          · go_enter Tryd.func15, Tryd.ntmps15
            go_wp2
            refine bodyPost_ret (v := .tuple #[val k s, .int .i64 0]) (by simp [results, Tryd.results15, go_sem, val]) rfl ?_
            exact ⟨ret_a (by rw [hr.out]; unfold secOf; rw [if_neg h1]) (by first | rfl | exact hw.out.symm), by (repeat' (first | assumption | exact Below.refl _ _ | apply Below.next_alloc | apply Below.drew | (apply Below.next; rotate_left; assumption)))⟩
set_option maxHeartbeats 1000000 in
theorem rsplit_any (k s : Int) (hk : 0 ≤ k ∧ k ≤ 255) (w : World) : Calls Tryd.prog 13 #[val k s] w fun e w' => e = .returned (.tuple #[.int .i64 (if chk k s = 0 then s / 86400 else 0), .int .i64 (if chk k s = 0 then s % 86400 else 0)]) ∧ Below w.heap.size w w' := by
  have F := fun w => rcheck_any k s hk w
  unfold val at F ⊢
  by_cases h : chk k s = 0
  · rw [if_pos h, if_pos h]
    have hw : why k s = 0 := by unfold chk at h; by_cases hw : why k s = 0; exact hw; rw [if_pos hw] at h; exact h
    have hb := why_le hw
    rw [h] at F
    have FH := Lib.hid F
    clear F h hw
    go_enter Tryd.func13, Tryd.ntmps13
    go_wp2_with (first | (go_at_call 17; refine (FH.out _).mono ?_; rintro e w1 ⟨rfl, hB1⟩; obtain ⟨hlt, c0, c1⟩ := boxed hB1))
    go_quiet (fail)
    go_wp2
    go_ret2
    exact ⟨rfl, Base.below_drewN (by (repeat' (first | assumption | exact Below.refl _ _ | apply Below.next_alloc | apply Below.drew | (apply Below.next; rotate_left; assumption)))) _⟩
  · rw [if_neg h, if_neg h]
    have hq : (chk k s != 0) = true := by simp [h]
    have FH := Lib.hid F
    clear F h
    go_enter Tryd.func13, Tryd.ntmps13
    go_wp2_with (first | (go_at_call 17; refine (FH.out _).mono ?_; rintro e w1 ⟨rfl, hB1⟩; obtain ⟨hlt, c0, c1⟩ := boxed hB1))
    go_ret2
    exact ⟨rfl, by (repeat' (first | assumption | exact Below.refl _ _ | apply Below.next_alloc | apply Below.drew | (apply Below.next; rotate_left; assumption)))⟩
theorem rbefore_any (k s l t : Int) (w : World) : Calls Tryd.prog 19 #[val k s, val l t] w fun e w' => e = .returned (.bool (decide (s < t) || (decide (s = t) && decide (k < l)))) ∧ Below w.heap.size w w' := by
  unfold val
  by_cases h1 : s < t
  · go_enter Tryd.func19, Tryd.ntmps19
    go_wp2
    go_ret
    exact ⟨ret_b (by simp [h1]), by (repeat' (first | assumption | exact Below.refl _ _ | apply Below.next_alloc | apply Below.drew | (apply Below.next; rotate_left; assumption)))⟩
  · by_cases h : s = t
    · subst h
      have hq : (s == s) = true := by simp
      go_enter Tryd.func19, Tryd.ntmps19
      go_wp2
      go_ret
      exact ⟨ret_b (by simp), by (repeat' (first | assumption | exact Below.refl _ _ | apply Below.next_alloc | apply Below.drew | (apply Below.next; rotate_left; assumption)))⟩
    · have hq : (s == t) = false := by simp [h]
      have hr := Lib.hid h
      clear h
      go_enter Tryd.func19, Tryd.ntmps19
      go_wp2
      go_ret
      exact ⟨ret_b (by simp [hr.out, h1]), by (repeat' (first | assumption | exact Below.refl _ _ | apply Below.next_alloc | apply Below.drew | (apply Below.next; rotate_left; assumption)))⟩
end Go.Proofs.YtbjiiejgepgdeaaDoor.Ma
