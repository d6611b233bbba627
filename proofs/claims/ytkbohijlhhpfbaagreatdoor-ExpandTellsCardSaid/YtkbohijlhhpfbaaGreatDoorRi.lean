/- The walk through recur's Check. -/
import Derived.Test.YtkbohijlhhpfbaaGreatDoorRh
import Derived.Deep.RegionHeld3
namespace Go.Proofs.YtkbohijlhhpfbaaGreatDoor.Ra
open Go.RowKit Ru Ut Cw
/-- all that is asked of a rule's numbers: short lists, words of the machine -/
def Wide (r : R) : Prop := Short r ∧ (0 ≤ r.freq ∧ 0 ≤ r.uk ∧ r.uk ≤ 255) ∧ ∀ q, 4 ≤ q → q ≤ 12 → q ≠ 7 → ∀ x ∈ lst r q, (Lit.int .i64 x).wf = true
theorem hi_bd (q : Nat) : 0 ≤ hi q ∧ hi q ≤ 1000 := by unfold hi; repeat' split <;> omega
def ruleV (r : R) (sv : Nat → Value) : Value := .agg (ruleC r sv)
set_option maxHeartbeats 8000000 in
set_option maxRecDepth 100000 in
theorem rcheck_any (w : World) (r : R) (sv : Nat → Value) (hL : Lists w r sv) (hW : Wide r) : Calls Tryz.prog 33 #[ruleV r sv] w fun e w' => e = .returned (.int .i64 (chkR r)) ∧ Below w.heap.size w w' := by
  have hbox := RAt.box w r sv 33
  have hLb := hL.later (Below.next_alloc (Below.refl _ w) (.cells (ruleC r sv) 33))
  have H1 := head_any (w.alloc (.cells (ruleC r sv) 33)) w.heap.size r sv hbox hW.2.1.2
  have hlt0 : w.heap.size < (w.alloc (.cells (ruleC r sv) 33)).heap.size := by simp
  have hbw := Below.next_alloc (Below.refl _ w) (.cells (ruleC r sv) 33)
  have hbox := Lib.hid hbox
  have hLb := Lib.hid hLb
  unfold ruleV ruleC at *
  by_cases h0 : head r = 0
  · rw [h0] at H1
    have H1h := Lib.hid H1
    clear H1
    have hr := Lib.hid (show chkR r = if errs r ≠ 0 then errs r else if fits r = true then 0 else 9 by unfold chkR; rw [if_neg (by omega)])
    clear h0
    go_enter Tryz.func33, Tryz.ntmps33
    go_wp2_with (first | (go_at_call 62; refine H1h.out.mono ?_; rintro e w1 ⟨rfl, hB⟩))
    have hB1 := Lib.hid hB
    clear hB
    go_loopw [4, 5] (fun p _ wr => ∃ q : Nat, 4 ≤ q ∧ q ≤ 13 ∧ p = .int .i64 q ∧ Hid (∀ i, 4 ≤ i → i < q → err r i = 0) ∧ Hid (Below w1.heap.size w1 wr)) (fun p _ _ => 13 - (intOf p).toNat)
    case atStart => exact ⟨4, by omega, by omega, rfl, Lib.hid (fun i h1 h2 => by omega), Lib.hid (Below.refl _ _)⟩
    case round =>
      obtain ⟨q, q4, q13, rfl, hz, hBr⟩ := hrel
      have hBB := Lib.hid (Below.next hB1.out hBr.out)
      have hR := Lib.hid (hbox.out.later hBB.out)
      have hLL := Lib.hid (hLb.out.later hBB.out)
      by_cases hq : q ≤ 12
      · have hi12 : (q : Int) ≤ 12 := by omega
        by_cases hq7 : q = 7
        · subst hq7
          have c8 := hR.out.2.2.2.2.2.2.2 7 (by decide) (by decide)
          have F := Lib.hid (show Calls Tryz.prog 63 #[sv 7] wr fun e w' => e = .returned (.int .i64 (err r 7)) ∧ Below wr.heap.size wr w' from soundDays_any hLL.out.2 hW.1.2)
          by_cases he : err r 7 = 0
          · have hz2 := Lib.hid (show ∀ i, 4 ≤ i → i < 8 → err r i = 0 from fun i h1 h2 => by
              by_cases h : i = 7
              · rw [h, he]
              · exact hz.out i h1 (by omega))
            rw [he] at F
            clear he
            go_wp2_with (first | (go_at_call 63; refine F.out.mono ?_; rintro e w2 ⟨rfl, hB2⟩))
            go_roundw
            case rel => exact ⟨8, by omega, by omega, by go_num, hz2, Lib.hid (Below.next hBr.out hB2)⟩
            case measure => simp [intOf]
          · have hr2 := Lib.hid (show chkR r = err r 7 by rw [hr.out, errs_first q4 (by omega) hz.out he, if_pos he])
            have hne : (err r 7 != 0) = true := by simp [he]
            clear he
            go_wp2_with (first | (go_at_call 63; refine F.out.mono ?_; rintro e w2 ⟨rfl, hB2⟩))
            go_ret
            exact ⟨ret_i hr2.out.symm, Below.next hbw (Below.next hBB.out hB2)⟩
        · have cq := hR.out.2.2.2.2.2.2.2 q q4 hq
          have hbl := hR.out.1
          have hq8 : ((q : Int) == 7) = false := by simp; omega
          have Sl := Lib.hid (show ∀ w', Below wr.heap.size wr w' → w'.cell? ⟨w.heap.size, q + 1, none⟩ = some (sv q) from fun w' h => (h.cell (p := ⟨w.heap.size, q + 1, none⟩) hbl).trans cq)
          have FL := Lib.hid (fun w' => list_any q w.heap.size q4 hq hq7 w')
          have FW := Lib.hid (fun w' => within_any q q4 hq hq7 w')
          have FS := Lib.hid (show ∀ W, Below wr.heap.size wr W → Calls Tryz.prog 64 #[sv q, endsV q] W fun e w' => e = .returned (.int .i64 (err r q)) ∧ Below W.heap.size W w' from fun W h => by
            have := sound_any ((hLL.out.1 q q4 hq hq7).below h) (hW.1.1 q q4 hq hq7) (hW.2.2 q q4 hq hq7) (lo q) (hi q) (sg q) (hi_bd q).1 (hi_bd q).2
            rw [show err r q = wrong (bad (lo q) (hi q) (sg q)) (lst r q) by unfold err; rw [if_neg hq7]]
            exact this)
          by_cases he : err r q = 0
          · have hz2 := Lib.hid (show ∀ i, 4 ≤ i → i < q + 1 → err r i = 0 from fun i h1 h2 => by
              by_cases h : i = q
              · rw [h, he]
              · exact hz.out i h1 (by omega))
            rw [he] at FS
            clear he
            go_wp2
            go_region_held3 (fun w' => w'.cell? ⟨w.heap.size, q + 1, none⟩ = some (sv q)) (first | go_keep | exact Sl.out _ (by (repeat' (first | assumption | exact Below.refl _ _ | apply Below.next_alloc | apply Below.drew | (apply Below.next; rotate_left; assumption)))))
              (first
                | (go_at_call 65; refine (FL.out _).mono ?_; rintro e w' ⟨rfl, rfl⟩)
                | (go_at_call 66; refine (FW.out _).mono ?_; rintro e w2 ⟨rfl, hB2⟩)
                | (go_at_call 64; refine (FS.out _ (by (repeat' (first | assumption | exact Below.refl _ _ | apply Below.next_alloc | apply Below.drew | (apply Below.next; rotate_left; assumption))))).mono ?_; rintro e w3 ⟨rfl, hB3⟩))
            all_goals
              go_wp2
              go_roundw
              case rel => exact ⟨q + 1, by omega, by omega, by go_num, hz2, Lib.hid (Below.next hBr.out (by (repeat' (first | assumption | exact Below.refl _ _ | apply Below.next_alloc | apply Below.drew | (apply Below.next; rotate_left; assumption)))))⟩
              case measure => simp [intOf]; omega
          · have hr2 := Lib.hid (show chkR r = err r q by rw [hr.out, errs_first q4 (by omega) hz.out he, if_pos he])
            have hne : (err r q != 0) = true := by simp [he]
            clear he
            go_wp2
            go_region_held3 (fun w' => w'.cell? ⟨w.heap.size, q + 1, none⟩ = some (sv q)) (first | go_keep | exact Sl.out _ (by (repeat' (first | assumption | exact Below.refl _ _ | apply Below.next_alloc | apply Below.drew | (apply Below.next; rotate_left; assumption)))))
              (first
                | (go_at_call 65; refine (FL.out _).mono ?_; rintro e w' ⟨rfl, rfl⟩)
                | (go_at_call 66; refine (FW.out _).mono ?_; rintro e w2 ⟨rfl, hB2⟩)
                | (go_at_call 64; refine (FS.out _ (by (repeat' (first | assumption | exact Below.refl _ _ | apply Below.next_alloc | apply Below.drew | (apply Below.next; rotate_left; assumption))))).mono ?_; rintro e w3 ⟨rfl, hB3⟩))
            all_goals
              go_wp2
              go_ret
              exact ⟨ret_i hr2.out.symm, Below.next hbw (Below.next hBB.out (by (repeat' (first | assumption | exact Below.refl _ _ | apply Below.next_alloc | apply Below.drew | (apply Below.next; rotate_left; assumption)))))⟩
      · obtain rfl : q = 13 := by omega
        have hr2 := Lib.hid (show chkR r = if fits r = true then 0 else 9 by rw [hr.out, errs_zero hz.out, if_neg (by decide)])
        have FF := fits_any wr w.heap.size r sv hR.out hLL.out hW.1 hW.2.1.1
        cases hf : fits r
        · rw [hf] at FF
          have hr3 := Lib.hid (hr2.out.trans (if_neg (by rw [hf]; decide)))
          have FFh := Lib.hid FF
          clear FF hf
          go_wp2_with (first | (go_at_call 67; refine FFh.out.mono ?_; rintro e w2 ⟨rfl, hB2⟩))
          go_ret
          exact ⟨ret_i hr3.out.symm, Below.next hbw (Below.next hBB.out hB2)⟩
        · rw [hf] at FF
          have hr3 := Lib.hid (hr2.out.trans (if_pos hf))
          have FFh := Lib.hid FF
          clear FF hf
          go_wp2_with (first | (go_at_call 67; refine FFh.out.mono ?_; rintro e w2 ⟨rfl, hB2⟩))
          go_ret
          exact ⟨ret_i hr3.out.symm, Below.next hbw (Below.next hBB.out hB2)⟩
  · have hr := Lib.hid (show chkR r = head r by unfold chkR; rw [if_pos h0])
    have hq : (head r != 0) = true := by simp [h0]
    have H1h := Lib.hid H1
    clear h0 H1
    go_enter Tryz.func33, Tryz.ntmps33
    go_wp2_with (first | (go_at_call 62; refine H1h.out.mono ?_; rintro e w1 ⟨rfl, hB⟩))
    go_ret
    exact ⟨ret_i hr.out.symm, Below.next_allocs' hB⟩
end Go.Proofs.YtkbohijlhhpfbaaGreatDoor.Ra
