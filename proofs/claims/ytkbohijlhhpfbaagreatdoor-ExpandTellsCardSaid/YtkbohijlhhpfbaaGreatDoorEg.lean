import Derived.Test.YtkbohijlhhpfbaaGreatDoorEd
import Derived.Test.YtkbohijlhhpfbaaGreatDoorEe
import Derived.Test.YtkbohijlhhpfbaaGreatDoorRq
import Derived.Test.YtkbohijlhhpfbaaGreatDoorRj
/- The walks through errandref23's lets (joined), may, Passes and Of. -/
namespace Go.Proofs.YtkbohijlhhpfbaaGreatDoor.Da
open Go.RowKit Ru Ut Cw Ra
theorem rlets_any (w : World) (r : R) (sv : Nat → Value) (start n : Int) (hd : Civ.isDay n = true) (h0 : 0 ≤ start) (h1 : start ≤ 315537897599) (hL : Lists w r sv) (hn : Short r) : Calls Tryz.prog 119 #[ruleV r sv, .int .i64 start, .int .i64 n] w fun e w' => e = .returned (.bool (Dy.lets r (Dy.about (start / 86400)) (Dy.about n))) ∧ Below w.heap.size w w' := by
  by_cases h : 0 < r.weekno.length
  · exact rlets_w w r sv start n hd h0 h1 hL hn h
  · exact rlets_z w r sv start n hd h0 h1 hL hn h
def may (r : R) (start : Int) : Bool := decide (chkR r = 0) && (decide (0 ≤ start) && decide (start ≤ 315537897599))
theorem dec_bool {p q : Prop} [Decidable p] [Decidable q] (h : p ↔ q) : decide p = decide q := by by_cases hp : p <;> simp [hp, h.1, ← h]
set_option maxHeartbeats 2000000 in
set_option maxRecDepth 100000 in
theorem may_any (w : World) (r : R) (sv : Nat → Value) (start : Int) (hL : Lists w r sv) (hW : Wide r) : Calls Tryz.prog 118 #[ruleV r sv, .int .i64 start] w fun e w' => e = .returned (.bool (may r start)) ∧ Below w.heap.size w w' := by
  have FC : ∀ W, Below w.heap.size w W → Calls Tryz.prog 37 #[ruleV r sv] W fun e w' => e = .returned (.int .i64 (chkR r)) ∧ Below W.heap.size W w' := fun W hB => rcheckR_any W r sv (hL.later hB) hW.1 hW.2.1.2 hW.2.1.1
  unfold ruleV ruleC at *
  clear hL hW
  by_cases hc : chkR r = 0
  · rw [hc] at FC
    replace FC := Lib.hid FC
    by_cases h0 : 0 ≤ start
    · by_cases h1 : start ≤ 315537897599
      · have hr := Lib.hid (show may r start = true by unfold may; rw [decide_eq_true hc, decide_eq_true h0, decide_eq_true h1]; rfl)
        clear hc
        go_enter Tryz.func118, Tryz.ntmps118
        go_wp2_with (first | (go_at_call 37; (with_reducible refine (FC.out _ (by (repeat' (first | assumption | exact Below.refl _ _ | apply Below.next_alloc | apply Below.drew | (apply Below.next; rotate_left; assumption))))).mono ?_); rintro e w1 ⟨rfl, hB⟩))
        go_ret
        exact ⟨ret_b hr.out.symm, Below.next_allocs' hB⟩
      · have hr := Lib.hid (show may r start = false by unfold may; rw [decide_eq_false h1]; simp)
        clear hc
        go_enter Tryz.func118, Tryz.ntmps118
        go_wp2_with (first | (go_at_call 37; (with_reducible refine (FC.out _ (by (repeat' (first | assumption | exact Below.refl _ _ | apply Below.next_alloc | apply Below.drew | (apply Below.next; rotate_left; assumption))))).mono ?_); rintro e w1 ⟨rfl, hB⟩))
        go_ret
        exact ⟨ret_b ((decide_eq_false (by omega)).trans hr.out.symm), Below.next_allocs' hB⟩
    · have hr := Lib.hid (show may r start = false by unfold may; rw [decide_eq_false h0]; simp)
      clear hc
      go_enter Tryz.func118, Tryz.ntmps118
      go_wp2_with (first | (go_at_call 37; (with_reducible refine (FC.out _ (by (repeat' (first | assumption | exact Below.refl _ _ | apply Below.next_alloc | apply Below.drew | (apply Below.next; rotate_left; assumption))))).mono ?_); rintro e w1 ⟨rfl, hB⟩))
      go_ret
      exact ⟨ret_b hr.out.symm, Below.next_allocs' hB⟩
  · have hr := Lib.hid (show may r start = false by unfold may; rw [decide_eq_false hc]; rfl)
    have hq : (chkR r == 0) = false := by simp [hc]
    replace FC := Lib.hid FC
    clear hc
    go_enter Tryz.func118, Tryz.ntmps118
    go_wp2_with (first | (go_at_call 37; (with_reducible refine (FC.out _ (by (repeat' (first | assumption | exact Below.refl _ _ | apply Below.next_alloc | apply Below.drew | (apply Below.next; rotate_left; assumption))))).mono ?_); rintro e w1 ⟨rfl, hB⟩))
    go_ret
    exact ⟨ret_b hr.out.symm, Below.next_allocs' hB⟩
theorem rpasses_eq (r : R) (start n : Int) : Dy.passes r start n = (may r start && (Civ.isDay n && Dy.lets r (Dy.about (start / 86400)) (Dy.about n))) := by
  have h : Civ.isDay (start / 86400) = (decide (0 ≤ start) && decide (start ≤ 315537897599)) := by
    rw [Bool.eq_iff_iff, Civ.isDay_iff, Bool.and_eq_true, decide_eq_true_iff, decide_eq_true_iff]; omega
  unfold Dy.passes may
  rw [h]
  cases Civ.isDay n <;> cases decide (0 ≤ start) <;> cases decide (start ≤ 315537897599) <;> cases decide (chkR r = 0) <;> simp
theorem may_in {r : R} {start : Int} (h : may r start = true) : chkR r = 0 ∧ 0 ≤ start ∧ start ≤ 315537897599 := by
  unfold may at h; simpa using h
theorem rbox (w : World) (r : R) (sv : Nat → Value) (t : TypeId) {W : World} (hB : Below (w.alloc (.cells (ruleC r sv) t)).heap.size (w.alloc (.cells (ruleC r sv) t)) W) : w.heap.size < W.heap.size ∧ W.cell? ⟨w.heap.size, 0, none⟩ = some (.int .u8 r.freq) ∧ W.cell? ⟨w.heap.size, 1, none⟩ = some (.int .i64 r.interval) ∧ W.cell? ⟨w.heap.size, 2, none⟩ = some (.int .i64 r.count) ∧ W.cell? ⟨w.heap.size, 3, none⟩ = some (.int .u8 r.uk) ∧ W.cell? ⟨w.heap.size, 4, none⟩ = some (.int .i64 r.us) ∧ W.cell? ⟨w.heap.size, 5, none⟩ = some (sv 4) ∧ W.cell? ⟨w.heap.size, 6, none⟩ = some (sv 5) ∧ W.cell? ⟨w.heap.size, 7, none⟩ = some (sv 6) ∧ W.cell? ⟨w.heap.size, 8, none⟩ = some (sv 7) ∧ W.cell? ⟨w.heap.size, 9, none⟩ = some (sv 8) ∧ W.cell? ⟨w.heap.size, 10, none⟩ = some (sv 9) ∧ W.cell? ⟨w.heap.size, 11, none⟩ = some (sv 10) ∧ W.cell? ⟨w.heap.size, 12, none⟩ = some (sv 11) ∧ W.cell? ⟨w.heap.size, 13, none⟩ = some (sv 12) ∧ W.cell? ⟨w.heap.size, 14, none⟩ = some (.int .i64 r.wkst) := by
  obtain ⟨h0, h1, h2, h3, h4, h5, h6, h7⟩ := (RAt.box w r sv t).later hB
  exact ⟨h0, h1, h2, h3, h4, h5, h7 4 (by decide) (by decide), h7 5 (by decide) (by decide), h7 6 (by decide) (by decide), h7 7 (by decide) (by decide), h7 8 (by decide) (by decide), h7 9 (by decide) (by decide), h7 10 (by decide) (by decide), h7 11 (by decide) (by decide), h7 12 (by decide) (by decide), h6⟩
end Go.Proofs.YtkbohijlhhpfbaaGreatDoor.Da

/- The walks through errandref23's Of and errandref20's SameInts. -/
namespace Go.Proofs.YtkbohijlhhpfbaaGreatDoor.Da
open Go.RowKit Ru Ut Cw Ra
theorem rof_nil {r : R} {start a b : Int} (h : a < 0 ∨ b < a ∨ 3652059 < b ∨ 366 < b - a ∨ start < 0 ∨ chkR r ≠ 0 ∨ Civ.isDay (start / 86400) = false) : Dy.daysOf r start a b = [] := by unfold Dy.daysOf; rw [if_pos h]
theorem rof_may {r : R} {start a b : Int} (h : may r start = false) : Dy.daysOf r start a b = [] := by
  by_cases h0 : start < 0
  · exact rof_nil (by omega)
  · by_cases h1 : chkR r = 0
    · refine rof_nil (.inr (.inr (.inr (.inr (.inr (.inr ?_))))))
      unfold may at h
      rw [decide_eq_true h1, decide_eq_true (show 0 ≤ start by omega), Bool.true_and, Bool.true_and] at h
      have := of_decide_eq_false h
      rw [← Bool.not_eq_true, Civ.isDay_iff]; omega
    · exact rof_nil (by omega)
theorem rof_days {r : R} {start a b : Int} (hm : may r start = true) (h1 : 0 ≤ a) (h2 : a ≤ b) (h3 : b ≤ 3652059) (h4 : b - a ≤ 366) : Dy.daysOf r start a b = Dy.days r start a (b - a).toNat := by
  obtain ⟨m0, m1, m2⟩ := may_in hm
  unfold Dy.daysOf; rw [if_neg]
  have : Civ.isDay (start / 86400) = true := (Civ.isDay_iff _).2 (by omega)
  rw [this]
  simp only [ne_eq, Bool.true_eq_false, or_false]
  omega
theorem rgives_nil {w W : World} {l : List Int} (hl : Hid (l = [])) (hB : Below w.heap.size w W) : Gives w l (.returned (.slice none 0 0)) W := by rw [hl.out]; exact ⟨_, rfl, OwnI.nil _ _, hB⟩
theorem rgives_of {w W : World} {B : Nat} {v : Value} {l m : List Int} (h : OwnI W B v m) (hl : m = l) (hb : w.heap.size ≤ B) (hB : Below w.heap.size w W) : Gives w l (.returned v) W := by subst hl; exact ⟨_, rfl, h.base hb, hB⟩
set_option maxHeartbeats 8000000 in
set_option maxRecDepth 100000 in
theorem rOf_any (w : World) (r : R) (sv : Nat → Value) (start a b : Int) (hL : Lists w r sv) (hW : Wide r) : Calls Tryz.prog 84 #[ruleV r sv, .int .i64 start, .int .i64 a, .int .i64 b] w (Gives w (Dy.daysOf r start a b)) := by
  have FM : ∀ W, Below w.heap.size w W → Calls Tryz.prog 118 #[ruleV r sv, .int .i64 start] W fun e w' => e = .returned (.bool (may r start)) ∧ Below W.heap.size W w' := fun W hB => may_any W r sv start (hL.later hB) hW
  have BX := fun W => @rbox w r sv 27 W
  have FL : may r start = true → ∀ n W, Civ.isDay n = true → Below w.heap.size w W → Calls Tryz.prog 119 #[ruleV r sv, .int .i64 start, .int .i64 n] W fun e w' => e = .returned (.bool (Dy.lets r (Dy.about (start / 86400)) (Dy.about n))) ∧ Below W.heap.size W w' := fun hm n W hi hB =>
    rlets_any W r sv start n hi (may_in hm).2.1 (may_in hm).2.2 (hL.later hB) hW.1
  unfold ruleV ruleC at *
  replace BX := Lib.hid BX
  replace FL := Lib.hid FL
  clear hL hW
  by_cases h1 : a < 0
  · have hr := Lib.hid (rof_nil (r := r) (start := start) (a := a) (b := b) (.inl h1))
    replace FM := Lib.hid FM
    go_enter Tryz.func84, Tryz.ntmps84
    go_wp2
    go_ret
    exact rgives_nil hr (by (repeat' (first | assumption | exact Below.refl _ _ | apply Below.next_alloc | apply Below.drew | (apply Below.next; rotate_left; assumption))))
  by_cases h2 : b < a
  · have hr := Lib.hid (rof_nil (r := r) (start := start) (a := a) (b := b) (.inr (.inl h2)))
    replace FM := Lib.hid FM
    go_enter Tryz.func84, Tryz.ntmps84
    go_wp2
    go_ret
    exact rgives_nil hr (by (repeat' (first | assumption | exact Below.refl _ _ | apply Below.next_alloc | apply Below.drew | (apply Below.next; rotate_left; assumption))))
  by_cases h3 : 3652059 < b
  · have hr := Lib.hid (rof_nil (r := r) (start := start) (a := a) (b := b) (.inr (.inr (.inl h3))))
    replace FM := Lib.hid FM
    go_enter Tryz.func84, Tryz.ntmps84
    go_wp2
    go_ret
    exact rgives_nil hr (by (repeat' (first | assumption | exact Below.refl _ _ | apply Below.next_alloc | apply Below.drew | (apply Below.next; rotate_left; assumption))))
  by_cases h4 : 366 < b - a
  · have hr := Lib.hid (rof_nil (r := r) (start := start) (a := a) (b := b) (.inr (.inr (.inr (.inl h4)))))
    replace FM := Lib.hid FM
    go_enter Tryz.func84, Tryz.ntmps84
    go_wp2
    go_ret
    exact rgives_nil hr (by (repeat' (first | assumption | exact Below.refl _ _ | apply Below.next_alloc | apply Below.drew | (apply Below.next; rotate_left; assumption))))
  cases hm : may r start
  · have hr := Lib.hid (rof_may (a := a) (b := b) hm)
    rw [hm] at FM
    replace FM := Lib.hid FM
    clear hm
    go_enter Tryz.func84, Tryz.ntmps84
    go_wp2_with (first | (go_at_call 118; (with_reducible refine (FM.out _ (by (repeat' (first | assumption | exact Below.refl _ _ | apply Below.next_alloc | apply Below.drew | (apply Below.next; rotate_left; assumption))))).mono ?_); rintro e w1 ⟨rfl, hB⟩))
    go_ret
    exact rgives_nil hr (Below.next_allocs' hB)
  · have hr := Lib.hid (rof_days (r := r) (start := start) (a := a) (b := b) hm (by omega) (by omega) (by omega) (by omega))
    replace FL := Lib.hid (FL.out hm)
    rw [hm] at FM
    replace FM := Lib.hid FM
    clear hm
    go_enter Tryz.func84, Tryz.ntmps84
    go_wp2_with (first | (go_at_call 118; (with_reducible refine (FM.out _ (by (repeat' (first | assumption | exact Below.refl _ _ | apply Below.next_alloc | apply Below.drew | (apply Below.next; rotate_left; assumption))))).mono ?_); rintro e w1 ⟨rfl, hB⟩))
    have bx := Lib.hid hB
    have b1 := Lib.hid (Below.next_allocs' hB)
    clear hB
    go_loopw [9, 10] (fun v i wr => ∃ k : Nat, k ≤ (b - a).toNat ∧ i = .int .i64 (a + k) ∧ OwnI wr w1.heap.size v (Dy.days r start a k) ∧ Hid (Below w1.heap.size w1 wr)) (fun _ i _ => (b - intOf i).toNat)
    case atStart => exact ⟨0, by omega, by simp, OwnI.nil _ _, Lib.hid (Below.refl _ _)⟩
    case round =>
      obtain ⟨k, hk, rfl, hown, hB⟩ := hrel
      replace hown := Lib.hid hown
      have hlen := Dy.days_le r start k a
      by_cases hkb : a + k < b
      · obtain ⟨y0, x0, x1, x2, x3, x4, x5, x6, x7, x8, x9, x10, x11, x12, x13, x14⟩ := BX.out wr (Below.next bx.out hB.out)
        have b1r := Lib.hid (Below.next b1.out hB.out)
        have DS := Dy.days_snoc r start k a
        have FM2 := FL.out (a + k) wr ((Civ.isDay_iff _).2 (by omega)) b1r.out
        generalize Dy.lets r (Dy.about (start / 86400)) (Dy.about (a + k)) = t at DS FM2
        replace FM2 := Lib.hid FM2
        cases t
        · rw [if_neg (by decide), List.append_nil] at DS
          replace DS := Lib.hid DS
          go_wp2_with (first | (go_at_call 119; (with_reducible refine FM2.out.mono ?_); rintro e w4 ⟨rfl, hB4⟩))
          go_roundw
          case rel => exact ⟨k + 1, by omega, by go_num, by rw [DS.out]; exact hown.out.below hB4, Lib.hid (Below.next hB.out hB4)⟩
          case measure => simp [intOf]; omega
        · rw [if_pos rfl] at DS
          replace DS := Lib.hid DS
          go_wp2_with (first
            | (go_at_call 119; (with_reducible refine FM2.out.mono ?_); rintro e w4 ⟨rfl, hB4⟩; have hB4 := Lib.hid hB4)
            | (at_builtin; refine push_int rfl _ _ rfl w1.heap.size _ (Dy.days r start a k) rfl (hown.out.below hB4.out) rfl (by omega) (Below.next hB.out hB4.out).size ?_; intro v5 w5 hown5 hB5))
          go_roundw
          case rel => exact ⟨k + 1, by omega, by go_num, by rw [DS.out]; exact hown5, Lib.hid ((Below.next hB.out hB4.out).trans hB5)⟩
          case measure => simp [intOf]; omega
      · have hr2 := Lib.hid (show Dy.days r start a k = Dy.daysOf r start a b by rw [hr.out, show k = (b - a).toNat by omega])
        go_wp2
        go_ret
        exact rgives_of hown.out hr2.out b1.out.size (Below.next b1.out hB.out)
theorem same_take {l m : List Int} (h : l.length = m.length) {k : Nat} (hk : l.length ≤ k) (ht : l.take k = m.take k) : l = m := by
  rwa [List.take_of_length_le hk, List.take_of_length_le (by omega)] at ht
theorem rSame_any {w : World} {v u : Value} {l m : List Int} (hl : Ints w v l) (hm : Ints w u m) (hn : l.length ≤ 1000000) (hn2 : m.length ≤ 1000000) : Calls Tryz.prog 14 #[v, u] w fun e w' => e = .returned (.bool (decide (l = m))) ∧ Below w.heap.size w w' := by
  by_cases hlen : l.length = m.length
  · rcases hl with ⟨rfl, a1, c1, rfl, -⟩ | ⟨h0, b, o, cap, rfl, hlt, hcap, hcell⟩
    · obtain rfl : m = [] := List.length_eq_zero_iff.1 hlen.symm
      obtain ⟨a2, c2, rfl⟩ := hm.slice
      clear hm hlen
      go_enter Tryz.func14, Tryz.ntmps14
      go_wp2
      refine wp_loop_rounds 1 ?_
      rw [rounds_succ]
      go_wp2
      go_ret
      exact ⟨rfl, by (repeat' (first | assumption | exact Below.refl _ _ | apply Below.next_alloc | apply Below.drew | (apply Below.next; rotate_left; assumption)))⟩
    · rcases hm with ⟨rfl, -⟩ | ⟨-, b2, o2, cap2, rfl, hlt2, hcap2, hcell2⟩
      · exact absurd hlen (by rw [List.length_nil]; omega)
      have HC := Lib.hid hcell
      have HD := Lib.hid hcell2
      rw [← hlen]
      have HL := Lib.hid hlen
      clear hcell hcell2
      go_enter Tryz.func14, Tryz.ntmps14
      go_wp2
      go_loopw [5] (fun i wr => ∃ k : Nat, k ≤ l.length ∧ i = .int .i64 k ∧ Hid (l.take k = m.take k) ∧ Hid (Below w.heap.size w wr)) (fun i _ => l.length - (intOf i).toNat)
      case atStart => exact ⟨0, by omega, rfl, Lib.hid (by simp), Lib.hid (Below.refl _ _)⟩
      case round =>
        obtain ⟨k, k1, rfl, hx, hB⟩ := hrel
        by_cases hk : k < l.length
        · have q1 := (hB.out.cell (p := ⟨b, o + k, none⟩) hlt).trans (HC.out k hk)
          have q2 := (hB.out.cell (p := ⟨b2, o2 + k, none⟩) hlt2).trans (HD.out k (by omega))
          have i2 : (k : Int) < (l.length : Int) := by omega
          have i3 : (0 : Int) ≤ (k : Int) := by omega
          have hs := Lib.hid (List.take_succ_eq_append_getElem hk)
          have hs2 := Lib.hid (List.take_succ_eq_append_getElem (show k < m.length by omega))
          obtain ⟨x, hx1⟩ : ∃ x, l[k] = x := ⟨_, rfl⟩
          obtain ⟨y, hy1⟩ : ∃ y, m[k]'(by omega) = y := ⟨_, rfl⟩
          rw [hx1] at q1 hs
          rw [hy1] at q2 hs2
          clear hlen hx1 hy1
          by_cases he : x = y
          · have t1 : (x != y) = false := by simp [he]
            have hx2 := Lib.hid (show l.take (k + 1) = m.take (k + 1) by rw [hs.out, hs2.out, hx.out, he])
            clear he
            go_wp2
            go_quiet (fail)
            go_wp2
            go_roundw
            case rel => exact ⟨k + 1, by omega, by go_num, hx2, Lib.hid (Base.below_drewN hB.out _)⟩
            case measure => simp [intOf]; omega
          · have t1 : (x != y) = true := by simp [he]
            have hr := Lib.hid (decide_eq_false (show ¬ l = m from fun h => by
              have h1 := hs.out
              rw [h, hs2.out] at h1
              have := List.append_inj_right' h1 rfl
              exact he (List.cons.inj this).1.symm))
            clear he
            go_wp2
            go_quiet (fail)
            go_wp2
            go_ret
            exact ⟨ret_b hr.out.symm, Base.below_drewN hB.out _⟩
        · have hr := Lib.hid (decide_eq_true (same_take HL.out (by omega) hx.out))
          go_wp2
          go_ret
          exact ⟨ret_b hr.out.symm, hB.out⟩
  · have hr := Lib.hid (decide_eq_false (show ¬ l = m from fun h => hlen (by rw [h])))
    obtain ⟨a1, c1, rfl⟩ := hl.slice
    obtain ⟨a2, c2, rfl⟩ := hm.slice
    have t0 : ((l.length : Int) != (m.length : Int)) = true := by simp; omega
    clear hl hm hlen
    go_enter Tryz.func14, Tryz.ntmps14
    go_wp2
    go_ret
    exact ⟨ret_b hr.out.symm, by (repeat' (first | assumption | exact Below.refl _ _ | apply Below.next_alloc | apply Below.drew | (apply Below.next; rotate_left; assumption)))⟩
end Go.Proofs.YtkbohijlhhpfbaaGreatDoor.Da

