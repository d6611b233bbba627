/- The walk through errandref21's list. -/
import Derived.Test.YtndicgfafdhieaaRk
namespace Go.Proofs.Ytndicgfafdhieaa.Ra
open Go.RowKit Ru Ut Cw
theorem bad_yes {a b n : Int} {s : Bool} (h : bad a b s n = true) (h0 : 0 ≤ a) (h1 : a ≤ b) : (n < a ∧ s = false) ∨ (¬ n < a ∧ b < n ∧ s = false) ∨ (n < a ∧ s = true ∧ n < -b) ∨ (n < a ∧ s = true ∧ ¬ n < -b ∧ -a < n) ∨ (¬ n < a ∧ b < n ∧ s = true ∧ ¬ n < -b ∧ -a < n) := by
  have hb := absI_bd n
  unfold bad at h
  rw [b_or b_dec (b_or b_dec (b_or b_dec (b_and b_dec (b_not Iff.rfl))))] at h
  cases s <;> simp at h ⊢ <;> omega
theorem bad_no {a b n : Int} {s : Bool} (h : bad a b s n = false) : (¬ n < a ∧ ¬ b < n) ∨ (n < a ∧ s = true ∧ ¬ n < -b ∧ ¬ -a < n) := by
  have hb := absI_bd n
  rw [← Bool.not_eq_true] at h
  unfold bad at h
  rw [b_or b_dec (b_or b_dec (b_or b_dec (b_and b_dec (b_not Iff.rfl))))] at h
  cases s <;> simp at h ⊢ <;> omega
set_option maxHeartbeats 4000000 in
theorem rlist_any {w : World} {v : Value} {l : List Int} (hl : Ints w v l) (hn : l.length ≤ 1000) (a b : Int) (s : Bool) (a0 : 0 ≤ a) (ab : a ≤ b) (b1 : b ≤ 1000) :
    Calls Try.prog 28 #[v, .int .i64 a, .int .i64 b, .bool s] w fun e w' => e = .returned (.int .i64 (wrong (bad a b s) l)) ∧ Below w.heap.size w w' := by
  have C := fun (wr : World) (v' : Value) (l' : List Int) (x : Int) (h : Ints wr v' l') (hn : l'.length ≤ 1000000) => rHas_any x h hn
  rcases hl with ⟨rfl, a', cap, rfl, ha⟩ | ⟨h0, blk, o, cap, rfl, hlt, hcap, hcell⟩
  · go_enter Try.func28, Try.ntmps28
    go_wp2
    go_rounds 1
    go_wp2
    go_rounds 1
    go_wp2
    go_ret
    exact ⟨rfl, by (repeat' (first | assumption | exact Below.refl _ _ | apply Below.next_alloc | apply Below.drew | (apply Below.next; rotate_left; assumption)))⟩
  · have HC := Lib.hid hcell
    clear hcell
    by_cases h12 : 12 < l.length
    · have hr := Lib.hid (show wrong (bad a b s) l = 20 by unfold wrong; rw [if_pos h12])
      have i12 : (12 : Int) < l.length := by omega
      clear h12
      go_enter Try.func28, Try.ntmps28
      go_wp2
      go_ret
      exact ⟨ret_i hr.out.symm, by (repeat' (first | assumption | exact Below.refl _ _ | apply Below.next_alloc | apply Below.drew | (apply Below.next; rotate_left; assumption)))⟩
    · have hr := Lib.hid (show wrong (bad a b s) l = if l.any (bad a b s) = true then 8 else if l.Nodup then 0 else 19 by unfold wrong; rw [if_neg h12])
      go_enter Try.func28, Try.ntmps28
      go_wp2
      go_loopw [9] (fun i wr => ∃ k : Nat, k ≤ l.length ∧ i = .int .i64 k ∧ Hid ((l.take k).any (bad a b s) = false) ∧ w = wr) (fun i _ => l.length - (intOf i).toNat)
      case atStart => exact ⟨0, by omega, rfl, Lib.hid (by simp), rfl⟩
      case round =>
        obtain ⟨k, k1, rfl, hx, rfl⟩ := hrel
        by_cases hk : k < l.length
        · have c1 := HC.out k hk
          have i2 : (k : Int) < (l.length : Int) := by omega
          have i3 : (0 : Int) ≤ (k : Int) := by omega
          obtain ⟨n, hn'⟩ : ∃ n, l[k] = n := ⟨_, rfl⟩
          rw [hn'] at c1
          have hany := Lib.hid (show bad a b s n = true → l.any (bad a b s) = true from fun h => any_of hk (by rw [hn']; exact h))
          have hnext := Lib.hid (show bad a b s n = false → (l.take (k + 1)).any (bad a b s) = false from fun h => by rw [any_take hk, hx.out, hn', h]; rfl)
          clear hn' hx
          cases hbd : bad a b s n
          · have hx2 := Lib.hid (hnext.out hbd)
            clear hnext hany
            rcases bad_no hbd with ⟨g1, g2⟩ | ⟨g1, rfl, g3, g4⟩
            all_goals
              clear hbd
              go_wp2
              go_roundw
              case rel => exact ⟨k + 1, by omega, by go_num, hx2, trivial⟩
              case measure => simp [intOf]; omega
          · have hr8 := Lib.hid (hr.out.trans (if_pos (hany.out hbd)))
            clear hnext hany hr
            rcases bad_yes hbd a0 ab with ⟨g1, rfl⟩ | ⟨g1, g2, rfl⟩ | ⟨g1, rfl, g3⟩ | ⟨g1, rfl, g3, g4⟩ | ⟨g1, g2, rfl, g3, g4⟩
            all_goals
              clear hbd
              go_wp2
              go_ret
              exact ⟨ret_i hr8.out.symm, by (repeat' (first | assumption | exact Below.refl _ _ | apply Below.next_alloc | apply Below.drew | (apply Below.next; rotate_left; assumption)))⟩
        · have hany := Lib.hid (show l.any (bad a b s) = false by have := hx.out; rwa [List.take_of_length_le (by omega)] at this)
          have hr2 := Lib.hid (hr.out.trans (if_neg (by rw [hany.out]; decide)))
          clear hx hany hr
          go_wp2
          go_loopw [10] (fun i wr => ∃ k : Nat, k ≤ l.length ∧ i = .int .i64 k ∧ Hid ((l.take k).Nodup) ∧ Hid (Below w.heap.size w wr)) (fun i _ => l.length - (intOf i).toNat)
          case atStart => exact ⟨0, by omega, rfl, Lib.hid (by simp), Lib.hid (Below.refl _ _)⟩
          case round =>
            obtain ⟨k, k1, rfl, hx, hB⟩ := hrel
            by_cases hk : k < l.length
            · have c1 := (hB.out.cell (p := ⟨blk, o + k, none⟩) hlt).trans (HC.out k hk)
              have i2 : (k : Int) < (l.length : Int) := by omega
              have i3 : (0 : Int) ≤ (k : Int) := by omega
              have i4 : (k : Int) ≤ (cap : Int) := by omega
              have CC := Lib.hid (fun (W : World) (h : Below w.heap.size w W) x => C W _ (l.take k) x (ints_take hlt hcap HC.out (by omega) h) (by rw [List.length_take]; omega))
              obtain ⟨n, hn'⟩ : ∃ n, l[k] = n := ⟨_, rfl⟩
              rw [hn'] at c1
              have hnd := Lib.hid ((take_nodup hk hx.out).symm)
              rw [hn'] at hnd
              by_cases hm : n ∈ l.take k
              · have hbad := Lib.hid (show ¬ l.Nodup from fun h => hnd.out.2 (nodup_take (k + 1) h) hm)
                have d1 := decide_eq_true hm
                have hr3 := Lib.hid (hr2.out.trans (if_neg hbad.out))
                have CN := Lib.hid (show ∀ W, Below w.heap.size w W → Calls Try.prog 37 #[.slice (some ⟨blk, o, none⟩) k cap, .int .i64 n] W fun e w' => e = .returned (.bool true) ∧ W = w' from fun W h => by have := CC.out W h n; rwa [d1] at this)
                clear hn' hm d1
                go_wp2
                go_quiet ((first | (go_at_call 37; exact Base.qsame (CN.out _ (Base.below_drewN hB.out _)))))
                go_wp2
                go_ret
                exact ⟨ret_i hr3.out.symm, Base.below_drewN hB.out _⟩
              · have hx2 := Lib.hid (hnd.out.1 hm)
                have d1 := decide_eq_false hm
                have CN := Lib.hid (show ∀ W, Below w.heap.size w W → Calls Try.prog 37 #[.slice (some ⟨blk, o, none⟩) k cap, .int .i64 n] W fun e w' => e = .returned (.bool false) ∧ W = w' from fun W h => by have := CC.out W h n; rwa [d1] at this)
                clear hn' hm d1
                go_wp2
                go_quiet ((first | (go_at_call 37; exact Base.qsame (CN.out _ (Base.below_drewN hB.out _)))))
                go_wp2
                go_roundw
                case rel => exact ⟨k + 1, by omega, by go_num, hx2, Lib.hid (Base.below_drewN hB.out _)⟩
                case measure => simp [intOf]; omega
            · have hr3 := Lib.hid (hr2.out.trans (if_pos (show l.Nodup by have := hx.out; rwa [List.take_of_length_le (by omega)] at this)))
              go_wp2
              go_ret
              exact ⟨ret_i hr3.out.symm, hB.out⟩
end Go.Proofs.Ytndicgfafdhieaa.Ra
