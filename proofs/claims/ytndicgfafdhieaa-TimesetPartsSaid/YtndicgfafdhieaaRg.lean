/- A rule as it lies in memory; the walk through its head. -/
import Derived.Test.YtndicgfafdhieaaRf
namespace Go.Proofs.Ytndicgfafdhieaa.Ra
open Go.RowKit Ru Ut Cw
/-- the rule r lies at the head of block b; sv: its lists' values, by their parts' numbers -/
def RAt (W : World) (b : Nat) (r : R) (sv : Nat → Value) : Prop :=
  b < W.heap.size ∧ W.cell? ⟨b, 0, none⟩ = some (.int .u8 r.freq) ∧ W.cell? ⟨b, 1, none⟩ = some (.int .i64 r.interval) ∧ W.cell? ⟨b, 2, none⟩ = some (.int .i64 r.count) ∧ W.cell? ⟨b, 3, none⟩ = some (.int .u8 r.uk) ∧ W.cell? ⟨b, 4, none⟩ = some (.int .i64 r.us) ∧
    W.cell? ⟨b, 14, none⟩ = some (.int .i64 r.wkst) ∧ (∀ q, 4 ≤ q → q ≤ 12 → W.cell? ⟨b, q + 1, none⟩ = some (sv q))
/-- the values sv read as the rule's lists -/
def Lists (W : World) (r : R) (sv : Nat → Value) : Prop := (∀ q, 4 ≤ q → q ≤ 12 → q ≠ 7 → Ints W (sv q) (lst r q)) ∧ Days W (sv 7) r.day
theorem RAt.later {W W2 : World} {b : Nat} {r : R} {sv : Nat → Value} (h : RAt W b r sv) (hB : Below W.heap.size W W2) : RAt W2 b r sv := by
  obtain ⟨h0, h1, h2, h3, h4, h5, h6, h7⟩ := h
  have keep : ∀ i v, W.cell? ⟨b, i, none⟩ = some v → W2.cell? ⟨b, i, none⟩ = some v := fun i v hv => (hB.cell (p := ⟨b, i, none⟩) h0).trans hv
  exact ⟨Nat.lt_of_lt_of_le h0 hB.size, keep _ _ h1, keep _ _ h2, keep _ _ h3, keep _ _ h4, keep _ _ h5, keep _ _ h6, fun q h4 h12 => keep _ _ (h7 q h4 h12)⟩
theorem Lists.later {W W2 : World} {r : R} {sv : Nat → Value} (h : Lists W r sv) (hB : Below W.heap.size W W2) : Lists W2 r sv :=
  ⟨fun q h4 h12 h7 => (h.1 q h4 h12 h7).below hB, h.2.below hB⟩
/-- a rule by value -/
def ruleC (r : R) (sv : Nat → Value) : Array Value := #[.int .u8 r.freq, .int .i64 r.interval, .int .i64 r.count, .int .u8 r.uk, .int .i64 r.us, sv 4, sv 5, sv 6, sv 7, sv 8, sv 9, sv 10, sv 11, sv 12, .int .i64 r.wkst]
theorem RAt.box (w : World) (r : R) (sv : Nat → Value) (t : TypeId) : RAt (w.alloc (.cells (ruleC r sv) t)) w.heap.size r sv := by
  refine ⟨by simp, World.cell?_alloc_mark w (ruleC r sv) t (0, 0) 0, World.cell?_alloc_mark w (ruleC r sv) t (0, 0) 1, World.cell?_alloc_mark w (ruleC r sv) t (0, 0) 2, World.cell?_alloc_mark w (ruleC r sv) t (0, 0) 3, World.cell?_alloc_mark w (ruleC r sv) t (0, 0) 4, World.cell?_alloc_mark w (ruleC r sv) t (0, 0) 14, fun q h4 h12 => ?_⟩
  have hc : q = 4 ∨ q = 5 ∨ q = 6 ∨ q = 7 ∨ q = 8 ∨ q = 9 ∨ q = 10 ∨ q = 11 ∨ q = 12 := by omega
  rcases hc with rfl | rfl | rfl | rfl | rfl | rfl | rfl | rfl | rfl
  · exact World.cell?_alloc_mark w (ruleC r sv) t (0, 0) 5
  · exact World.cell?_alloc_mark w (ruleC r sv) t (0, 0) 6
  · exact World.cell?_alloc_mark w (ruleC r sv) t (0, 0) 7
  · exact World.cell?_alloc_mark w (ruleC r sv) t (0, 0) 8
  · exact World.cell?_alloc_mark w (ruleC r sv) t (0, 0) 9
  · exact World.cell?_alloc_mark w (ruleC r sv) t (0, 0) 10
  · exact World.cell?_alloc_mark w (ruleC r sv) t (0, 0) 11
  · exact World.cell?_alloc_mark w (ruleC r sv) t (0, 0) 12
  · exact World.cell?_alloc_mark w (ruleC r sv) t (0, 0) 13
theorem head_one {r : R} (h : 6 < r.freq) : head r = 11 := by unfold head; rw [if_pos h]
theorem head_two {r : R} (h : ¬ 6 < r.freq) (h2 : r.interval < 1 ∨ 1000 < r.interval ∨ r.count < 0 ∨ 1000 < r.count ∨ r.wkst < 0 ∨ 6 < r.wkst) : head r = 8 := by unfold head; rw [if_neg h, if_pos h2]
theorem head_rest {r : R} (h : ¬ 6 < r.freq) (h2 : ¬ (r.interval < 1 ∨ 1000 < r.interval ∨ r.count < 0 ∨ 1000 < r.count ∨ r.wkst < 0 ∨ 6 < r.wkst)) :
    head r = if r.uk = 0 ∧ r.us = 0 then 0 else if r.uk = 0 then 2 else if Mo.chk r.uk r.us ≠ 0 then Mo.chk r.uk r.us else if 0 < r.count then 9 else 0 := by unfold head; rw [if_neg h, if_neg h2]
attribute [local go_sem] Ma.eqV
set_option maxHeartbeats 4000000 in
set_option maxRecDepth 100000 in
theorem head_any (w : World) (b : Nat) (r : R) (sv : Nat → Value) (hR : RAt w b r sv) (hu : 0 ≤ r.uk ∧ r.uk ≤ 255) : Calls Try.prog 38 #[.pointer (some ⟨b, 0, none⟩)] w fun e w' => e = .returned (.int .i64 (head r)) ∧ Below w.heap.size w w' := by
  obtain ⟨hb, c0, c1, c2, c3, c4, c14, -⟩ := hR
  by_cases h1 : 6 < r.freq
  · have hr := Lib.hid (head_one h1)
    go_enter Try.func38, Try.ntmps38
    go_wp2
    go_ret
    exact ⟨ret_i hr.out.symm, by (repeat' (first | assumption | exact Below.refl _ _ | apply Below.next_alloc | apply Below.drew | (apply Below.next; rotate_left; assumption)))⟩
  · by_cases h2 : r.interval < 1
    · have hr := Lib.hid (head_two h1 (.inl h2))
      go_enter Try.func38, Try.ntmps38
      go_wp2
      go_ret
      exact ⟨ret_i hr.out.symm, by (repeat' (first | assumption | exact Below.refl _ _ | apply Below.next_alloc | apply Below.drew | (apply Below.next; rotate_left; assumption)))⟩
    · by_cases h3 : 1000 < r.interval
      · have hr := Lib.hid (head_two h1 (.inr (.inl h3)))
        go_enter Try.func38, Try.ntmps38
        go_wp2
        go_ret
        exact ⟨ret_i hr.out.symm, by (repeat' (first | assumption | exact Below.refl _ _ | apply Below.next_alloc | apply Below.drew | (apply Below.next; rotate_left; assumption)))⟩
      · by_cases h4 : r.count < 0
        · have hr := Lib.hid (head_two h1 (.inr (.inr (.inl h4))))
          go_enter Try.func38, Try.ntmps38
          go_wp2
          go_ret
          exact ⟨ret_i hr.out.symm, by (repeat' (first | assumption | exact Below.refl _ _ | apply Below.next_alloc | apply Below.drew | (apply Below.next; rotate_left; assumption)))⟩
        · by_cases h5 : 1000 < r.count
          · have hr := Lib.hid (head_two h1 (.inr (.inr (.inr (.inl h5)))))
            go_enter Try.func38, Try.ntmps38
            go_wp2
            go_ret
            exact ⟨ret_i hr.out.symm, by (repeat' (first | assumption | exact Below.refl _ _ | apply Below.next_alloc | apply Below.drew | (apply Below.next; rotate_left; assumption)))⟩
          · by_cases h6 : r.wkst < 0 ∨ 6 < r.wkst
            · have hr := Lib.hid (head_two h1 (.inr (.inr (.inr (.inr h6)))))
              have F := Lib.hid (wdn_bad h6)
              clear h6
              go_enter Try.func38, Try.ntmps38
              go_wp2_with (first | (go_at_call 47; refine (F.out _).mono ?_; rintro e w' ⟨⟨t, rfl, ht⟩, rfl⟩))
              go_ret
              exact ⟨ret_i hr.out.symm, by (repeat' (first | assumption | exact Below.refl _ _ | apply Below.next_alloc | apply Below.drew | (apply Below.next; rotate_left; assumption)))⟩
            · have hr := Lib.hid (head_rest h1 (by omega))
              have F := Lib.hid (wdn_good h6)
              clear h6
              by_cases h7 : r.uk = 0
              · rw [h7] at c3
                by_cases h8 : r.us = 0
                · rw [h8] at c4
                  have hr := Lib.hid (hr.out.trans (if_pos ⟨h7, h8⟩))
                  clear h7 h8 hu
                  go_enter Try.func38, Try.ntmps38
                  go_wp2_with (first | (go_at_call 47; refine (F.out _).mono ?_; rintro e w' ⟨⟨t, rfl, ht⟩, rfl⟩))
                  go_ret
                  exact ⟨ret_i hr.out.symm, by (repeat' (first | assumption | exact Below.refl _ _ | apply Below.next_alloc | apply Below.drew | (apply Below.next; rotate_left; assumption)))⟩
                · have hr := Lib.hid (hr.out.trans ((if_neg (fun h => h8 h.2)).trans (if_pos h7)))
                  clear h7 hu
                  go_enter Try.func38, Try.ntmps38
                  go_wp2_with (first | (go_at_call 47; refine (F.out _).mono ?_; rintro e w' ⟨⟨t, rfl, ht⟩, rfl⟩))
                  go_ret
                  exact ⟨ret_i hr.out.symm, by (repeat' (first | assumption | exact Below.refl _ _ | apply Below.next_alloc | apply Below.drew | (apply Below.next; rotate_left; assumption)))⟩
              · have hq : (r.uk == 0) = false := by simp [h7]
                have hr := Lib.hid (hr.out.trans ((if_neg (fun h => h7 h.1)).trans (if_neg h7)))
                have G := fun w => Ma.check_any r.uk r.us hu w
                unfold Ma.val at G
                by_cases h9 : Mo.chk r.uk r.us = 0
                · rw [h9] at G
                  have GH := Lib.hid G
                  have hr := Lib.hid (hr.out.trans (if_neg (by omega)))
                  clear h9 G hu
                  by_cases h10 : 0 < r.count
                  · have hr := Lib.hid (hr.out.trans (if_pos h10))
                    go_enter Try.func38, Try.ntmps38
                    go_wp2_with (first | (go_at_call 47; refine (F.out _).mono ?_; rintro e w' ⟨⟨t, rfl, ht⟩, rfl⟩) | (go_at_call 48; refine (GH.out _).mono ?_; rintro e w1 ⟨rfl, hB⟩; have c2 := (hB.cell (p := ⟨b, 2, none⟩) hb).trans c2))
                    go_ret
                    exact ⟨ret_i hr.out.symm, by (repeat' (first | assumption | exact Below.refl _ _ | apply Below.next_alloc | apply Below.drew | (apply Below.next; rotate_left; assumption)))⟩
                  · have hr := Lib.hid (hr.out.trans (if_neg h10))
                    go_enter Try.func38, Try.ntmps38
                    go_wp2_with (first | (go_at_call 47; refine (F.out _).mono ?_; rintro e w' ⟨⟨t, rfl, ht⟩, rfl⟩) | (go_at_call 48; refine (GH.out _).mono ?_; rintro e w1 ⟨rfl, hB⟩; have c2 := (hB.cell (p := ⟨b, 2, none⟩) hb).trans c2))
                    go_ret
                    exact ⟨ret_i hr.out.symm, by (repeat' (first | assumption | exact Below.refl _ _ | apply Below.next_alloc | apply Below.drew | (apply Below.next; rotate_left; assumption)))⟩
                · have hr := Lib.hid (hr.out.trans (if_pos h9))
                  have hq2 : (Mo.chk r.uk r.us != 0) = true := by simp [h9]
                  have GH := Lib.hid G
                  clear h9 G hu
                  go_enter Try.func38, Try.ntmps38
                  go_wp2_with (first | (go_at_call 47; refine (F.out _).mono ?_; rintro e w' ⟨⟨t, rfl, ht⟩, rfl⟩) | (go_at_call 48; refine (GH.out _).mono ?_; rintro e w1 ⟨rfl, hB⟩; have c2 := (hB.cell (p := ⟨b, 2, none⟩) hb).trans c2))
                  go_ret
                  exact ⟨ret_i hr.out.symm, by (repeat' (first | assumption | exact Below.refl _ _ | apply Below.next_alloc | apply Below.drew | (apply Below.next; rotate_left; assumption)))⟩
end Go.Proofs.Ytndicgfafdhieaa.Ra
