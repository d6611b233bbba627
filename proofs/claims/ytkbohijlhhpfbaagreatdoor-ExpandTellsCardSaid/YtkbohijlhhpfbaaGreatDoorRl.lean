import Derived.Test.YtkbohijlhhpfbaaGreatDoorRh
import Derived.Test.YtkbohijlhhpfbaaGreatDoorMb
/- The walks through errandref20's Has and errandref21's first, numbered, list. -/
namespace Go.Proofs.YtkbohijlhhpfbaaGreatDoor.Ra
open Go.RowKit Ru Ut Cw
theorem rHas_any {w : World} {v : Value} {l : List Int} (x : Int) (hl : Ints w v l) (hn : l.length ≤ 1000000) : Calls Tryz.prog 44 #[v, .int .i64 x] w fun e w' => e = .returned (.bool (decide (x ∈ l))) ∧ w = w' := by
  rcases hl with ⟨rfl, a, cap, rfl, ha⟩ | ⟨h0, b, o, cap, rfl, hlt, hcap, hcell⟩
  · go_enter Tryz.func44, Tryz.ntmps44
    go_wp2
    refine wp_loop_rounds 1 ?_
    rw [rounds_succ]
    go_wp2
    go_ret
    exact ⟨rfl, rfl⟩
  · have HC := Lib.hid hcell
    clear hcell
    go_enter Tryz.func44, Tryz.ntmps44
    go_wp2
    go_loopw [5] (fun i wr => ∃ k : Nat, k ≤ l.length ∧ i = .int .i64 k ∧ Hid (x ∉ l.take k) ∧ w = wr) (fun i _ => l.length - (intOf i).toNat)
    case atStart => exact ⟨0, by omega, rfl, Lib.hid (by simp), rfl⟩
    case round =>
      obtain ⟨k, k1, rfl, hx, rfl⟩ := hrel
      by_cases hk : k < l.length
      · have c1 := HC.out k hk
        have i2 : (k : Int) < (l.length : Int) := by omega
        have i3 : (0 : Int) ≤ (k : Int) := by omega
        by_cases he : x = l[k]
        · have hq : (l[k] == x) = true := by simp [he]
          have hm : x ∈ l := by rw [he]; exact List.getElem_mem hk
          have hr := Lib.hid (decide_eq_true hm)
          clear he hm
          go_wp2
          go_ret
          exact ⟨ret_b hr.out.symm, rfl⟩
        · have hq : (l[k] == x) = false := by simp [Ne.symm he]
          have hx2 := Lib.hid (show x ∉ l.take (k + 1) by
            rw [List.take_succ_eq_append_getElem hk, List.mem_append]
            rintro (h | h)
            · exact hx.out h
            · exact he (List.mem_singleton.1 h))
          clear he hx
          go_wp2
          go_roundw
          case rel => exact ⟨k + 1, by omega, by go_num, hx2, trivial⟩
          case measure => simp [intOf]; omega
      · have hm := Lib.hid (decide_eq_false (show x ∉ l by have := hx.out; rwa [List.take_of_length_le (by omega)] at this))
        go_wp2
        go_ret
        exact ⟨ret_b hm.out.symm, rfl⟩
theorem firstNZ_pre {l : List Int} {k : Nat} (h : ∀ x ∈ l.take k, x = 0) : firstNZ l = firstNZ (l.drop k) := by
  induction l generalizing k with
  | nil => simp
  | cons x l ih =>
    cases k with
    | zero => simp
    | succ k =>
      have h0 : x = 0 := h x (by simp)
      simp only [List.drop_succ_cons, firstNZ, if_pos h0]
      exact ih fun y hy => h y (by simp [hy])
theorem firstNZ_at {l : List Int} {k : Nat} (hk : k < l.length) (h : ∀ x ∈ l.take k, x = 0) (hx : ¬ l[k] = 0) : firstNZ l = l[k] := by
  rw [firstNZ_pre h, List.drop_eq_getElem_cons hk]
  simp [firstNZ, hx]
theorem firstNZ_none {l : List Int} {k : Nat} (hk : l.length ≤ k) (h : ∀ x ∈ l.take k, x = 0) : firstNZ l = 0 := by
  rw [firstNZ_pre h, List.drop_of_length_le hk]; rfl
theorem first_any {w : World} {v : Value} {l : List Int} (hl : Ints w v l) (hn : l.length ≤ 1000000) : Calls Tryz.prog 72 #[v] w fun e w' => e = .returned (.int .i64 (firstNZ l)) ∧ w = w' := by
  rcases hl with ⟨rfl, a, cap, rfl, ha⟩ | ⟨h0, b, o, cap, rfl, hlt, hcap, hcell⟩
  · go_enter Tryz.func72, Tryz.ntmps72
    go_wp2
    refine wp_loop_rounds 1 ?_
    rw [rounds_succ]
    go_wp2
    go_ret
    exact ⟨rfl, rfl⟩
  · have HC := Lib.hid hcell
    clear hcell
    go_enter Tryz.func72, Tryz.ntmps72
    go_wp2
    go_loopw [3] (fun i wr => ∃ k : Nat, k ≤ l.length ∧ i = .int .i64 k ∧ Hid (∀ x ∈ l.take k, x = 0) ∧ w = wr) (fun i _ => l.length - (intOf i).toNat)
    case atStart => exact ⟨0, by omega, rfl, Lib.hid (by simp), rfl⟩
    case round =>
      obtain ⟨k, k1, rfl, hx, rfl⟩ := hrel
      by_cases hk : k < l.length
      · have c1 := HC.out k hk
        have i2 : (k : Int) < (l.length : Int) := by omega
        have i3 : (0 : Int) ≤ (k : Int) := by omega
        by_cases he : l[k] = 0
        · have hq : (l[k] != 0) = false := by simp [he]
          have hx2 := Lib.hid (show ∀ x ∈ l.take (k + 1), x = 0 by
            intro x hm
            rw [List.take_succ_eq_append_getElem hk, List.mem_append] at hm
            rcases hm with h | h
            · exact hx.out x h
            · rw [List.mem_singleton.1 h, he])
          clear he hx
          go_wp2
          go_roundw
          case rel => exact ⟨k + 1, by omega, by go_num, hx2, trivial⟩
          case measure => simp [intOf]; omega
        · have hq : (l[k] != 0) = true := by simp [he]
          have hr := Lib.hid (firstNZ_at hk hx.out he)
          clear he
          go_wp2
          go_ret
          exact ⟨ret_i hr.out.symm, rfl⟩
      · have hr := Lib.hid (firstNZ_none (by omega) hx.out)
        go_wp2
        go_ret
        exact ⟨ret_i hr.out.symm, rfl⟩
theorem numbered_take {l : List (Int × Int)} {k : Nat} (hk : k < l.length) (h : numbered (l.take k) = false) (h0 : l[k].1 = 0) : numbered (l.take (k + 1)) = false := by
  unfold numbered at *
  rw [any_take hk, h, decide_eq_true h0]; rfl
theorem numbered_any {w : World} {v : Value} {l : List (Int × Int)} (hl : Days w v l) (hn : l.length ≤ 1000000) : Calls Tryz.prog 75 #[v] w fun e w' => e = .returned (.bool (numbered l)) ∧ w = w' := by
  rcases hl with ⟨rfl, a, cap, rfl, ha⟩ | ⟨h0, b, o, cap, rfl, hlt, hcap, hcell⟩
  · go_enter Tryz.func75, Tryz.ntmps75
    go_wp2
    refine wp_loop_rounds 1 ?_
    rw [rounds_succ]
    go_wp2
    go_ret
    exact ⟨rfl, rfl⟩
  · have HC := Lib.hid hcell
    clear hcell
    go_enter Tryz.func75, Tryz.ntmps75
    go_wp2
    go_loopw [3] (fun i wr => ∃ k : Nat, k ≤ l.length ∧ i = .int .i64 k ∧ Hid (numbered (l.take k) = false) ∧ w = wr) (fun i _ => l.length - (intOf i).toNat)
    case atStart => exact ⟨0, by omega, rfl, Lib.hid (by simp [numbered]), rfl⟩
    case round =>
      obtain ⟨k, k1, rfl, hx, rfl⟩ := hrel
      by_cases hk : k < l.length
      · obtain ⟨c1, c2⟩ := HC.out k hk
        have i2 : (k : Int) < (l.length : Int) := by omega
        have i3 : (0 : Int) ≤ (k : Int) := by omega
        by_cases he : l[k].1 = 0
        · have hq : (l[k].1 != 0) = false := by simp [he]
          have hx2 := Lib.hid (numbered_take hk hx.out he)
          clear he hx
          go_wp2
          go_roundw
          case rel => exact ⟨k + 1, by omega, by go_num, hx2, trivial⟩
          case measure => simp [intOf]; omega
        · have hq : (l[k].1 != 0) = true := by simp [he]
          have hr := Lib.hid (show numbered l = true by unfold numbered; exact any_of hk (by rw [decide_eq_false he]; rfl))
          clear he
          go_wp2
          go_ret
          exact ⟨ret_b hr.out.symm, rfl⟩
      · have hr := Lib.hid (show numbered l = false by have := hx.out; rwa [List.take_of_length_le (by omega)] at this)
        go_wp2
        go_ret
        exact ⟨ret_b hr.out.symm, rfl⟩
end Go.Proofs.YtkbohijlhhpfbaaGreatDoor.Ra

/- The walk through errandref21's list. -/
namespace Go.Proofs.YtkbohijlhhpfbaaGreatDoor.Ra
open Go.RowKit Ru Ut Cw
theorem bad_yes {a b n : Int} {s : Bool} (h : bad a b s n = true) (h0 : 0 ≤ a) (h1 : a ≤ b) : (n < a ∧ s = false) ∨ (¬ n < a ∧ b < n ∧ s = false) ∨ (n < a ∧ s = true ∧ n < -b) ∨ (n < a ∧ s = true ∧ ¬ n < -b ∧ -a < n) ∨ (¬ n < a ∧ b < n ∧ s = true ∧ ¬ n < -b ∧ -a < n) := by
  have hb := absI_bd n
  unfold bad at h
  rw [b_or b_dec (b_or b_dec (b_or b_dec (b_and b_dec (b_not Iff.rfl))))] at h
  cases s <;> simp at h ⊢ <;> omega
theorem bad_no {a b n : Int} {s : Bool} (h : bad a b s n = false) : (¬ n < a ∧ ¬ b < n) ∨ (n < a ∧ s = true ∧ ¬ n < -b ∧ ¬ -a < n) := by
  have hb := absI_bd n
  rw [← Bool.not_eq_true] at h
  unfold bad at h
  rw [b_or b_dec (b_or b_dec (b_or b_dec (b_and b_dec (b_not Iff.rfl))))] at h
  cases s <;> simp at h ⊢ <;> omega
set_option maxHeartbeats 4000000 in
theorem rlist_any {w : World} {v : Value} {l : List Int} (hl : Ints w v l) (hn : l.length ≤ 1000) (a b : Int) (s : Bool) (a0 : 0 ≤ a) (ab : a ≤ b) (b1 : b ≤ 1000) :
    Calls Tryz.prog 73 #[v, .int .i64 a, .int .i64 b, .bool s] w fun e w' => e = .returned (.int .i64 (wrong (bad a b s) l)) ∧ Below w.heap.size w w' := by
  have C := fun (wr : World) (v' : Value) (l' : List Int) (x : Int) (h : Ints wr v' l') (hn : l'.length ≤ 1000000) => rHas_any x h hn
  rcases hl with ⟨rfl, a', cap, rfl, ha⟩ | ⟨h0, blk, o, cap, rfl, hlt, hcap, hcell⟩
  · go_enter Tryz.func73, Tryz.ntmps73
    go_wp2
    go_rounds 1
    go_wp2
    go_rounds 1
    go_wp2
    go_ret
    exact ⟨rfl, by (repeat' (first | assumption | exact Below.refl _ _ | apply Below.next_alloc | apply Below.drew | (apply Below.next; rotate_left; assumption)))⟩
  · have HC := Lib.hid hcell
    clear hcell
    by_cases h12 : 12 < l.length
    · have hr := Lib.hid (show wrong (bad a b s) l = 20 by unfold wrong; rw [if_pos h12])
      have i12 : (12 : Int) < l.length := by omega
      clear h12
      go_enter Tryz.func73, Tryz.ntmps73
      go_wp2
      go_ret
      exact ⟨ret_i hr.out.symm, by (repeat' (first | assumption | exact Below.refl _ _ | apply Below.next_alloc | apply Below.drew | (apply Below.next; rotate_left; assumption)))⟩
    · have hr := Lib.hid (show wrong (bad a b s) l = if l.any (bad a b s) = true then 8 else if l.Nodup then 0 else 19 by unfold wrong; rw [if_neg h12])
      go_enter Tryz.func73, Tryz.ntmps73
      go_wp2
      go_loopw [9] (fun i wr => ∃ k : Nat, k ≤ l.length ∧ i = .int .i64 k ∧ Hid ((l.take k).any (bad a b s) = false) ∧ w = wr) (fun i _ => l.length - (intOf i).toNat)
      case atStart => exact ⟨0, by omega, rfl, Lib.hid (by simp), rfl⟩
      case round =>
        obtain ⟨k, k1, rfl, hx, rfl⟩ := hrel
        by_cases hk : k < l.length
        · have c1 := HC.out k hk
          have i2 : (k : Int) < (l.length : Int) := by omega
          have i3 : (0 : Int) ≤ (k : Int) := by omega
          obtain ⟨n, hn'⟩ : ∃ n, l[k] = n := ⟨_, rfl⟩
          rw [hn'] at c1
          have hany := Lib.hid (show bad a b s n = true → l.any (bad a b s) = true from fun h => any_of hk (by rw [hn']; exact h))
          have hnext := Lib.hid (show bad a b s n = false → (l.take (k + 1)).any (bad a b s) = false from fun h => by rw [any_take hk, hx.out, hn', h]; rfl)
          clear hn' hx
          cases hbd : bad a b s n
          · have hx2 := Lib.hid (hnext.out hbd)
            clear hnext hany
            rcases bad_no hbd with ⟨g1, g2⟩ | ⟨g1, rfl, g3, g4⟩
            all_goals
              clear hbd
              go_wp2
              go_roundw
              case rel => exact ⟨k + 1, by omega, by go_num, hx2, trivial⟩
              case measure => simp [intOf]; omega
          · have hr8 := Lib.hid (hr.out.trans (if_pos (hany.out hbd)))
            clear hnext hany hr
            rcases bad_yes hbd a0 ab with ⟨g1, rfl⟩ | ⟨g1, g2, rfl⟩ | ⟨g1, rfl, g3⟩ | ⟨g1, rfl, g3, g4⟩ | ⟨g1, g2, rfl, g3, g4⟩
            all_goals
              clear hbd
              go_wp2
              go_ret
              exact ⟨ret_i hr8.out.symm, by (repeat' (first | assumption | exact Below.refl _ _ | apply Below.next_alloc | apply Below.drew | (apply Below.next; rotate_left; assumption)))⟩
        · have hany := Lib.hid (show l.any (bad a b s) = false by have := hx.out; rwa [List.take_of_length_le (by omega)] at this)
          have hr2 := Lib.hid (hr.out.trans (if_neg (by rw [hany.out]; decide)))
          clear hx hany hr
          go_wp2
          go_loopw [10] (fun i wr => ∃ k : Nat, k ≤ l.length ∧ i = .int .i64 k ∧ Hid ((l.take k).Nodup) ∧ Hid (Below w.heap.size w wr)) (fun i _ => l.length - (intOf i).toNat)
          case atStart => exact ⟨0, by omega, rfl, Lib.hid (by simp), Lib.hid (Below.refl _ _)⟩
          case round =>
            obtain ⟨k, k1, rfl, hx, hB⟩ := hrel
            by_cases hk : k < l.length
            · have c1 := (hB.out.cell (p := ⟨blk, o + k, none⟩) hlt).trans (HC.out k hk)
              have i2 : (k : Int) < (l.length : Int) := by omega
              have i3 : (0 : Int) ≤ (k : Int) := by omega
              have i4 : (k : Int) ≤ (cap : Int) := by omega
              have CC := Lib.hid (fun (W : World) (h : Below w.heap.size w W) x => C W _ (l.take k) x (ints_take hlt hcap HC.out (by omega) h) (by rw [List.length_take]; omega))
              obtain ⟨n, hn'⟩ : ∃ n, l[k] = n := ⟨_, rfl⟩
              rw [hn'] at c1
              have hnd := Lib.hid ((take_nodup hk hx.out).symm)
              rw [hn'] at hnd
              by_cases hm : n ∈ l.take k
              · have hbad := Lib.hid (show ¬ l.Nodup from fun h => hnd.out.2 (nodup_take (k + 1) h) hm)
                have d1 := decide_eq_true hm
                have hr3 := Lib.hid (hr2.out.trans (if_neg hbad.out))
                have CN := Lib.hid (show ∀ W, Below w.heap.size w W → Calls Tryz.prog 44 #[.slice (some ⟨blk, o, none⟩) k cap, .int .i64 n] W fun e w' => e = .returned (.bool true) ∧ W = w' from fun W h => by have := CC.out W h n; rwa [d1] at this)
                clear hn' hm d1
                go_wp2
                go_quiet ((first | (go_at_call 44; exact Base.qsame (CN.out _ (Base.below_drewN hB.out _)))))
                go_wp2
                go_ret
                exact ⟨ret_i hr3.out.symm, Base.below_drewN hB.out _⟩
              · have hx2 := Lib.hid (hnd.out.1 hm)
                have d1 := decide_eq_false hm
                have CN := Lib.hid (show ∀ W, Below w.heap.size w W → Calls Tryz.prog 44 #[.slice (some ⟨blk, o, none⟩) k cap, .int .i64 n] W fun e w' => e = .returned (.bool false) ∧ W = w' from fun W h => by have := CC.out W h n; rwa [d1] at this)
                clear hn' hm d1
                go_wp2
                go_quiet ((first | (go_at_call 44; exact Base.qsame (CN.out _ (Base.below_drewN hB.out _)))))
                go_wp2
                go_roundw
                case rel => exact ⟨k + 1, by omega, by go_num, hx2, Lib.hid (Base.below_drewN hB.out _)⟩
                case measure => simp [intOf]; omega
            · have hr3 := Lib.hid (hr2.out.trans (if_pos (show l.Nodup by have := hx.out; rwa [List.take_of_length_le (by omega)] at this)))
              go_wp2
              go_ret
              exact ⟨ret_i hr3.out.symm, hB.out⟩
end Go.Proofs.YtkbohijlhhpfbaaGreatDoor.Ra

