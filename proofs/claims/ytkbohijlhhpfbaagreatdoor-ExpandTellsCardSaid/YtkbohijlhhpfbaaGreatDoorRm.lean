/- The walks through errandref21's days and until. -/
import Derived.Test.YtkbohijlhhpfbaaGreatDoorRl
namespace Go.Proofs.YtkbohijlhhpfbaaGreatDoor.Ra
open Go.RowKit Ru Ut Cw
theorem eqDr (a b c d : Int) (W : World) : (Op.equalIn 10000 112 (.agg #[.int .i64 a, .int .i64 b]) (.agg #[.int .i64 c, .int .i64 d])).run Tryz.prog W = .ok (decide (a = c) && decide (b = d)) W := by
  rw [run_equalIn_struct W 9999 _ _ _ (by kernel_rfl) (by kernel_rfl)]
  by_cases h1 : a = c <;> by_cases h2 : b = d <;> simp [go_sem, Tryz.underlying112, Tryz.underlying3, h1, h2]
theorem eqDr_no {a b c d : Int} (h : ¬ (a, b) = (c, d)) (W : World) : (Op.equalIn 10000 112 (.agg #[.int .i64 a, .int .i64 b]) (.agg #[.int .i64 c, .int .i64 d])).run Tryz.prog W = .ok false W := by
  rw [eqDr]
  by_cases h1 : a = c
  · have h2 : ¬ b = d := fun h2 => h (by rw [h1, h2])
    simp [h2]
  · simp [h1]
theorem eqDr_yes (a b : Int) (W : World) : (Op.equalIn 10000 112 (.agg #[.int .i64 a, .int .i64 b]) (.agg #[.int .i64 a, .int .i64 b])).run Tryz.prog W = .ok true W := by rw [eqDr]; simp
set_option maxHeartbeats 4000000 in
theorem rdays_any {w : World} {v : Value} {l : List (Int × Int)} (hl : Days w v l) (hn : l.length ≤ 1000) : Calls Tryz.prog 74 #[v] w fun e w' => e = .returned (.int .i64 (wrong badDay l)) ∧ Below w.heap.size w w' := by
  rcases hl with ⟨rfl, a', cap, rfl, ha⟩ | ⟨h0, blk, o, cap, rfl, hlt, hcap, hcell⟩
  · go_enter Tryz.func74, Tryz.ntmps74
    go_wp2
    go_rounds 1
    go_wp2
    go_rounds 1
    go_wp2
    go_ret
    exact ⟨rfl, by (repeat' (first | assumption | exact Below.refl _ _ | apply Below.next_alloc | apply Below.drew | (apply Below.next; rotate_left; assumption)))⟩
  · have HC := Lib.hid hcell
    clear hcell
    by_cases h12 : 12 < l.length
    · have hr := Lib.hid (show wrong badDay l = 20 by unfold wrong; rw [if_pos h12])
      have i12 : (12 : Int) < l.length := by omega
      clear h12
      go_enter Tryz.func74, Tryz.ntmps74
      go_wp2
      go_ret
      exact ⟨ret_i hr.out.symm, by (repeat' (first | assumption | exact Below.refl _ _ | apply Below.next_alloc | apply Below.drew | (apply Below.next; rotate_left; assumption)))⟩
    · have hr := Lib.hid (show wrong badDay l = if l.any badDay = true then 8 else if l.Nodup then 0 else 19 by unfold wrong; rw [if_neg h12])
      go_enter Tryz.func74, Tryz.ntmps74
      go_wp2
      go_loopw [3] (fun i wr => ∃ k : Nat, k ≤ l.length ∧ i = .int .i64 k ∧ Hid ((l.take k).any badDay = false) ∧ w = wr) (fun i _ => l.length - (intOf i).toNat)
      case atStart => exact ⟨0, by omega, rfl, Lib.hid (by simp), rfl⟩
      case round =>
        obtain ⟨k, k1, rfl, hx, rfl⟩ := hrel
        by_cases hk : k < l.length
        · obtain ⟨c1, c2⟩ := HC.out k hk
          have i2 : (k : Int) < (l.length : Int) := by omega
          have i3 : (0 : Int) ≤ (k : Int) := by omega
          obtain ⟨n, hn'⟩ : ∃ n, l[k] = n := ⟨_, rfl⟩
          rw [hn'] at c1 c2
          have hany := Lib.hid (show badDay n = true → l.any badDay = true from fun h => any_of hk (by rw [hn']; exact h))
          have hnext := Lib.hid (show badDay n = false → (l.take (k + 1)).any badDay = false from fun h => by rw [any_take hk, hx.out, hn', h]; rfl)
          clear hn' hx
          obtain ⟨p, q⟩ := n
          simp only at c1 c2
          by_cases g0 : q < 0
          · have hr8 := Lib.hid (hr.out.trans (if_pos (hany.out (by unfold badDay; simp; omega))))
            go_wp2
            go_ret
            exact ⟨ret_i hr8.out.symm, by (repeat' (first | assumption | exact Below.refl _ _ | apply Below.next_alloc | apply Below.drew | (apply Below.next; rotate_left; assumption)))⟩
          · by_cases g1 : 6 < q
            · have hr8 := Lib.hid (hr.out.trans (if_pos (hany.out (by unfold badDay; simp; omega))))
              go_wp2
              go_ret
              exact ⟨ret_i hr8.out.symm, by (repeat' (first | assumption | exact Below.refl _ _ | apply Below.next_alloc | apply Below.drew | (apply Below.next; rotate_left; assumption)))⟩
            · by_cases g2 : p < -53
              · have hr8 := Lib.hid (hr.out.trans (if_pos (hany.out (by unfold badDay; simp; omega))))
                go_wp2
                go_ret
                exact ⟨ret_i hr8.out.symm, by (repeat' (first | assumption | exact Below.refl _ _ | apply Below.next_alloc | apply Below.drew | (apply Below.next; rotate_left; assumption)))⟩
              · by_cases g3 : 53 < p
                · have hr8 := Lib.hid (hr.out.trans (if_pos (hany.out (by unfold badDay; simp; omega))))
                  go_wp2
                  go_ret
                  exact ⟨ret_i hr8.out.symm, by (repeat' (first | assumption | exact Below.refl _ _ | apply Below.next_alloc | apply Below.drew | (apply Below.next; rotate_left; assumption)))⟩
                · have hx2 := Lib.hid (hnext.out (by unfold badDay; simp; omega))
                  go_wp2
                  go_roundw
                  case rel => exact ⟨k + 1, by omega, by go_num, hx2, trivial⟩
                  case measure => simp [intOf]; omega
        · have hany := Lib.hid (show l.any badDay = false by have := hx.out; rwa [List.take_of_length_le (by omega)] at this)
          have hr2 := Lib.hid (hr.out.trans (if_neg (by rw [hany.out]; decide)))
          clear hx hany hr
          go_wp2
          go_loopw [4, 5] (fun i _ wr => ∃ k : Nat, k ≤ l.length ∧ i = .int .i64 k ∧ Hid ((l.take k).Nodup) ∧ Hid (Below w.heap.size w wr)) (fun i _ _ => l.length - (intOf i).toNat)
          case atStart => exact ⟨0, by omega, rfl, Lib.hid (by simp), Lib.hid (Below.refl _ _)⟩
          case round =>
            obtain ⟨k, k1, rfl, hx, hB⟩ := hrel
            by_cases hk : k < l.length
            · have i2 : (k : Int) < (l.length : Int) := by omega
              have i3 : (0 : Int) ≤ (k : Int) := by omega
              have HD := Lib.hid (fun (W : World) (h : Below w.heap.size w W) => days_cells hlt HC.out h k hk)
              obtain ⟨n, hn'⟩ : ∃ n, l[k] = n := ⟨_, rfl⟩
              have hnd := Lib.hid ((take_nodup hk hx.out).symm)
              rw [hn'] at hnd HD
              clear hn'
              obtain ⟨p, q⟩ := n
              simp only at HD
              obtain ⟨wo, rfl⟩ : ∃ wo : World, wo = wr := ⟨_, rfl⟩
              go_wp2
              go_loopw [5] (fun i wr => ∃ j : Nat, j ≤ k ∧ i = .int .i64 j ∧ Hid ((p, q) ∉ l.take j) ∧ Hid (Below w.heap.size w wr)) (fun i _ => k - (intOf i).toNat)
              case atStart => exact ⟨0, by omega, rfl, Lib.hid (by simp), hB⟩
              case round =>
                clear hB
                obtain ⟨j, j1, rfl, hy, hB⟩ := hrel
                by_cases hj : j < k
                · obtain ⟨c1, c2⟩ := HD.out _ hB.out
                  obtain ⟨d1, d2⟩ := days_cells hlt HC.out hB.out j (by omega)
                  have j2 : (j : Int) < (k : Int) := by omega
                  have j4 : (j : Int) < (l.length : Int) := by omega
                  have j3 : (0 : Int) ≤ (j : Int) := by omega
                  by_cases he : l[j] = (p, q)
                  · have hm := Lib.hid (show (p, q) ∈ l.take k by rw [← he]; exact List.mem_take_iff_getElem.2 ⟨j, by omega, rfl⟩)
                    rw [he] at d1 d2
                    have hE := eqDr_yes p q
                    have hbad := Lib.hid (show ¬ l.Nodup from fun h => hnd.out.2 (nodup_take (k + 1) h) hm.out)
                    have hr3 := Lib.hid (hr2.out.trans (if_neg hbad.out))
                    clear he
                    go_wp2
                    go_quiet (fail)
                    go_wp2
                    go_ret
                    exact ⟨ret_i hr3.out.symm, Base.below_drewN hB.out _⟩
                  · have hy2 := Lib.hid (show (p, q) ∉ l.take (j + 1) by
                      rw [List.take_succ_eq_append_getElem (by omega), List.mem_append]
                      rintro (h | h)
                      · exact hy.out h
                      · exact he (List.mem_singleton.1 h).symm)
                    generalize l[j] = m at d1 d2 he
                    obtain ⟨p', q'⟩ := m
                    simp only at d1 d2
                    have hE := eqDr_no he
                    clear he hy
                    go_wp2
                    go_quiet (fail)
                    go_wp2
                    go_roundw
                    case rel => exact ⟨j + 1, by omega, by go_num, hy2, Lib.hid (Base.below_drewN hB.out _)⟩
                    case measure => simp [intOf]; omega
                · have hx2 := Lib.hid (hnd.out.1 (by have := hy.out; rwa [show j = k by omega] at this))
                  go_wp2
                  go_roundw
                  case rel => exact ⟨k + 1, by omega, by go_num, hx2, hB⟩
                  case measure => simp [intOf]; omega
            · have hr3 := Lib.hid (hr2.out.trans (if_pos (show l.Nodup by have := hx.out; rwa [List.take_of_length_le (by omega)] at this)))
              go_wp2
              go_ret
              exact ⟨ret_i hr3.out.symm, hB.out⟩
/-- what is wrong with a rule's end -/
def untilE (r : R) : Int := if r.uk = 0 ∧ r.us = 0 then 0 else if r.uk = 0 then 2 else if Mo.chk r.uk r.us ≠ 0 then Mo.chk r.uk r.us else if 0 < r.count then 9 else 0
set_option maxHeartbeats 2000000 in
set_option maxRecDepth 100000 in
theorem until_any (w : World) (r : R) (sv : Nat → Value) (hu : 0 ≤ r.uk ∧ r.uk ≤ 255) : Calls Tryz.prog 71 #[.agg (ruleC r sv)] w fun e w' => e = .returned (.int .i64 (untilE r)) ∧ Below w.heap.size w w' := by
  unfold ruleC
  have G := fun w => Ma.rcheck_any r.uk r.us hu w
  unfold Ma.val at G
  by_cases h7 : r.uk = 0
  · have q7 : (r.uk == 0) = true := by simp [h7]
    by_cases h8 : r.us = 0
    · have q8 : (r.us != 0) = false := by simp [h8]
      have hr := Lib.hid (show untilE r = 0 by unfold untilE; rw [if_pos ⟨h7, h8⟩])
      clear h7 h8 G
      go_enter Tryz.func71, Tryz.ntmps71
      go_wp2
      go_ret
      exact ⟨ret_i hr.out.symm, by (repeat' (first | assumption | exact Below.refl _ _ | apply Below.next_alloc | apply Below.drew | (apply Below.next; rotate_left; assumption)))⟩
    · have q8 : (r.us != 0) = true := by simp [h8]
      have hr := Lib.hid (show untilE r = 2 by unfold untilE; rw [if_neg (fun h => h8 h.2), if_pos h7])
      clear h7 h8 G
      go_enter Tryz.func71, Tryz.ntmps71
      go_wp2
      go_ret
      exact ⟨ret_i hr.out.symm, by (repeat' (first | assumption | exact Below.refl _ _ | apply Below.next_alloc | apply Below.drew | (apply Below.next; rotate_left; assumption)))⟩
  · have q7 : (r.uk == 0) = false := by simp [h7]
    by_cases h9 : Mo.chk r.uk r.us = 0
    · rw [h9] at G
      replace G := Lib.hid G
      by_cases h10 : 0 < r.count
      · have hr := Lib.hid (show untilE r = 9 by unfold untilE; rw [if_neg (fun h => h7 h.1), if_neg h7, if_neg (by omega), if_pos h10])
        clear h7 h9
        go_enter Tryz.func71, Tryz.ntmps71
        go_wp2_with (first | (go_at_call 59; (with_reducible refine (G.out _).mono ?_); rintro e w1 ⟨rfl, hB⟩; have c2 := (hB.cell (p := ⟨w.heap.size, 2, none⟩) (by simp)).trans (World.cell?_alloc_new w _ _ 2)))
        go_ret
        exact ⟨ret_i hr.out.symm, Below.next_allocs' hB⟩
      · have hr := Lib.hid (show untilE r = 0 by unfold untilE; rw [if_neg (fun h => h7 h.1), if_neg h7, if_neg (by omega), if_neg h10])
        clear h7 h9
        go_enter Tryz.func71, Tryz.ntmps71
        go_wp2_with (first | (go_at_call 59; (with_reducible refine (G.out _).mono ?_); rintro e w1 ⟨rfl, hB⟩; have c2 := (hB.cell (p := ⟨w.heap.size, 2, none⟩) (by simp)).trans (World.cell?_alloc_new w _ _ 2)))
        go_ret
        exact ⟨ret_i hr.out.symm, Below.next_allocs' hB⟩
    · have hr := Lib.hid (show untilE r = Mo.chk r.uk r.us by unfold untilE; rw [if_neg (fun h => h7 h.1), if_neg h7, if_pos h9])
      have q9 : (Mo.chk r.uk r.us != 0) = true := by simp [h9]
      replace G := Lib.hid G
      clear h7 h9
      go_enter Tryz.func71, Tryz.ntmps71
      go_wp2_with (first | (go_at_call 59; (with_reducible refine (G.out _).mono ?_); rintro e w1 ⟨rfl, hB⟩))
      go_ret
      exact ⟨ret_i hr.out.symm, Below.next_allocs' hB⟩
end Go.Proofs.YtkbohijlhhpfbaaGreatDoor.Ra
