import Derived.Test.YtkbohijlhhpfbaaGreatDoorRc
import Derived.Test.YtkbohijlhhpfbaaGreatDoorMa
import Derived.Deep.RegionWith
/- The walks through slices.Contains over weekdays, and through recur's soundDays. -/
namespace Go.Proofs.YtkbohijlhhpfbaaGreatDoor.Ra
open Go.RowKit Ru Ut Cw
theorem eqD (a b c d : Int) (W : World) : (Op.equalIn 10000 77 (.agg #[.int .i64 a, .int .i64 b]) (.agg #[.int .i64 c, .int .i64 d])).run Tryz.prog W = .ok (decide (a = c) && decide (b = d)) W := by
  rw [run_equalIn_struct W 9999 _ _ _ (by kernel_rfl) (by kernel_rfl)]
  by_cases h1 : a = c <;> by_cases h2 : b = d <;> simp [go_sem, Tryz.underlying77, Tryz.underlying3, h1, h2]
theorem eqD_no {a b c d : Int} (h : ¬ (a, b) = (c, d)) (W : World) : (Op.equalIn 10000 77 (.agg #[.int .i64 a, .int .i64 b]) (.agg #[.int .i64 c, .int .i64 d])).run Tryz.prog W = .ok false W := by
  rw [eqD]
  by_cases h1 : a = c
  · have h2 : ¬ b = d := fun h2 => h (by rw [h1, h2])
    simp [h2]
  · simp [h1]
theorem eqD_yes (a b : Int) (W : World) : (Op.equalIn 10000 77 (.agg #[.int .i64 a, .int .i64 b]) (.agg #[.int .i64 a, .int .i64 b])).run Tryz.prog W = .ok true W := by rw [eqD]; simp
theorem days_cells {w wr : World} {blk o : Nat} {l : List (Int × Int)} (hlt : blk < w.heap.size) (hc : ∀ i (h : i < l.length), w.cell? ⟨blk, o + i * 2, none⟩ = some (.int .i64 l[i].1) ∧ w.cell? ⟨blk, o + i * 2 + 1, none⟩ = some (.int .i64 l[i].2)) (hB : Below w.heap.size w wr) (k : Nat) (hk : k < l.length) :
    wr.cell? ⟨blk, o + k * 2, none⟩ = some (.int .i64 l[k].1) ∧ wr.cell? ⟨blk, o + k * 2 + 1, none⟩ = some (.int .i64 l[k].2) :=
  ⟨(hB.cell (p := ⟨blk, o + k * 2, none⟩) hlt).trans (hc k hk).1, (hB.cell (p := ⟨blk, o + k * 2 + 1, none⟩) hlt).trans (hc k hk).2⟩
set_option maxHeartbeats 2000000 in
theorem indexD_any {w : World} {v : Value} {l : List (Int × Int)} (x y : Int) (hl : Days w v l) (hn : l.length ≤ 1000000) :
    Calls Tryz.prog 144 #[v, .agg #[.int .i64 x, .int .i64 y]] w fun e w' => (∃ i : Int, e = .returned (.int .i64 i) ∧ decide (0 ≤ i) = decide ((x, y) ∈ l)) ∧ Below w.heap.size w w' := by
  rcases hl with ⟨rfl, a, cap, rfl, ha⟩ | ⟨h0, b, o, cap, rfl, hlt, hcap, hcell⟩
  · go_enter Tryz.func144, Tryz.ntmps144
    go_wp2
    refine wp_loop_rounds 1 ?_
    rw [rounds_succ]
    go_wp2
    go_ret
    exact ⟨⟨_, rfl, by simp⟩, by (repeat' (first | assumption | exact Below.refl _ _ | apply Below.next_alloc | apply Below.drew | (apply Below.next; rotate_left; assumption)))⟩
  · have HC := Lib.hid hcell
    clear hcell
    go_enter Tryz.func144, Tryz.ntmps144
    go_wp2
    go_loopw [8] (fun i wr => ∃ k : Nat, k ≤ l.length ∧ i = .int .i64 k ∧ Hid ((x, y) ∉ l.take k) ∧ Hid (Below (w.alloc (.cells #[.int .i64 x, .int .i64 y] 77)).heap.size (w.alloc (.cells #[.int .i64 x, .int .i64 y] 77)) wr)) (fun i _ => l.length - (intOf i).toNat)
    case atStart => exact ⟨0, by omega, rfl, Lib.hid (by simp), Lib.hid (Below.refl _ _)⟩
    case round =>
      obtain ⟨k, k1, rfl, hx, hB⟩ := hrel
      by_cases hk : k < l.length
      · obtain ⟨c1, c2⟩ := days_cells hlt HC.out (Below.next_allocs' hB.out) k hk
        obtain ⟨hlt3, e0, e1⟩ := Ma.boxed hB.out
        have i2 : (k : Int) < (l.length : Int) := by omega
        have i3 : (0 : Int) ≤ (k : Int) := by omega
        by_cases he : (x, y) = l[k]
        · have hm := Lib.hid (show (x, y) ∈ l by rw [he]; exact List.getElem_mem hk)
          rw [← he] at c1 c2
          have hE := eqD_yes x y
          clear he
          go_wp2
          go_quiet (fail)
          go_wp2
          go_ret
          exact ⟨⟨_, rfl, by rw [decide_eq_true (by omega), decide_eq_true hm.out]⟩, Base.below_drewN (Below.next_allocs' hB.out) _⟩
        · have hx2 := Lib.hid (show (x, y) ∉ l.take (k + 1) by
            rw [List.take_succ_eq_append_getElem hk, List.mem_append]
            rintro (h | h)
            · exact hx.out h
            · exact he (List.mem_singleton.1 h))
          have hE := eqD_no (a := x) (b := y) (c := l[k].1) (d := l[k].2) he
          clear he hx
          go_wp2
          go_quiet (fail)
          go_wp2
          go_roundw
          case rel => exact ⟨k + 1, by omega, by go_num, hx2, Lib.hid (Base.below_drewN hB.out _)⟩
          case measure => simp [intOf]; omega
      · have hm := Lib.hid (show (x, y) ∉ l by have := hx.out; rwa [List.take_of_length_le (by omega)] at this)
        go_wp2
        go_ret
        exact ⟨⟨_, rfl, by rw [decide_eq_false hm.out]; rfl⟩, Below.next_allocs' hB.out⟩
theorem containsD_any {w : World} {v : Value} {l : List (Int × Int)} (x y : Int) (hl : Days w v l) (hn : l.length ≤ 1000000) :
    Calls Tryz.prog 102 #[v, .agg #[.int .i64 x, .int .i64 y]] w fun e w' => e = .returned (.bool (decide ((x, y) ∈ l))) ∧ Below w.heap.size w w' := by
  have F := Lib.hid (indexD_any (w := w.alloc (.cells #[.int .i64 x, .int .i64 y] 77)) x y (hl.below (Below.next_alloc (Below.refl _ w) _)) hn)
  have hv : ∃ a m c, v = .slice a m c := by
    rcases hl with ⟨_, a, cap, rfl, _⟩ | ⟨_, b, o, cap, rfl, _⟩
    · exact ⟨_, _, _, rfl⟩
    · exact ⟨_, _, _, rfl⟩
  obtain ⟨a, m, c, rfl⟩ := hv
  clear hl
  go_enter Tryz.func102, Tryz.ntmps102
  go_wp2_with (first | (go_at_call 144; refine (F.out).mono ?_; rintro e w' ⟨⟨i, rfl, hi⟩, hB⟩))
  go_ret
  exact ⟨rfl, Below.next_allocs' hB⟩
end Go.Proofs.YtkbohijlhhpfbaaGreatDoor.Ra

/- The walk through recur's soundDays. -/
namespace Go.Proofs.YtkbohijlhhpfbaaGreatDoor.Ra
open Go.RowKit Ru Ut Cw
theorem days_take {w wr : World} {blk o cap k : Nat} {l : List (Int × Int)} (hlt : blk < w.heap.size) (hcap : l.length ≤ cap) (hc : ∀ i (h : i < l.length), w.cell? ⟨blk, o + i * 2, none⟩ = some (.int .i64 l[i].1) ∧ w.cell? ⟨blk, o + i * 2 + 1, none⟩ = some (.int .i64 l[i].2)) (hk : k ≤ l.length) (hB : Below w.heap.size w wr) :
    Days wr (.slice (some ⟨blk, o, none⟩) k cap) (l.take k) := by
  have hlen : (l.take k).length = k := by rw [List.length_take]; omega
  by_cases h0 : k = 0
  · subst h0
    exact .inl ⟨rfl, _, _, rfl, fun h => by cases h⟩
  · refine .inr ⟨by omega, blk, o, cap, by rw [hlen], Nat.lt_of_lt_of_le hlt hB.size, by omega, fun i h => ?_⟩
    rw [List.getElem_take]
    exact days_cells hlt hc hB i (by omega)
theorem wdn_bad {d : Int} (h : d < 0 ∨ 6 < d) (w : World) : Calls Tryz.prog 101 #[.int .i64 d] w fun e w' => (∃ s, e = .returned (.string s) ∧ (s.toList == []) = true) ∧ w = w' :=
  (wdn_any d w).mono fun e w' ⟨⟨s, h1, h2⟩, h3⟩ => ⟨⟨s, h1, by rw [h2]; simpa using h⟩, h3⟩
theorem wdn_good {d : Int} (h : ¬ (d < 0 ∨ 6 < d)) (w : World) : Calls Tryz.prog 101 #[.int .i64 d] w fun e w' => (∃ s, e = .returned (.string s) ∧ (s.toList == []) = false) ∧ w = w' :=
  (wdn_any d w).mono fun e w' ⟨⟨s, h1, h2⟩, h3⟩ => ⟨⟨s, h1, by rw [h2]; simp; omega⟩, h3⟩
set_option maxHeartbeats 4000000 in
theorem soundDays_any {w : World} {v : Value} {l : List (Int × Int)} (hl : Days w v l) (hn : l.length ≤ 1000) :
    Calls Tryz.prog 63 #[v] w fun e w' => e = .returned (.int .i64 (wrong badDay l)) ∧ Below w.heap.size w w' := by
  have C := fun (wr : World) (v' : Value) (l' : List (Int × Int)) (x y : Int) (h : Days wr v' l') (hn : l'.length ≤ 1000000) => containsD_any x y h hn
  rcases hl with ⟨rfl, a', cap, rfl, ha⟩ | ⟨h0, blk, o, cap, rfl, hlt, hcap, hcell⟩
  · go_enter Tryz.func63, Tryz.ntmps63
    go_wp2
    go_rounds 1
    go_wp2
    go_rounds 1
    go_wp2
    go_ret
    exact ⟨rfl, by (repeat' (first | assumption | exact Below.refl _ _ | apply Below.next_alloc | apply Below.drew | (apply Below.next; rotate_left; assumption)))⟩
  · have HC := Lib.hid hcell
    clear hcell
    by_cases h12 : 12 < l.length
    · have hr := Lib.hid (show wrong badDay l = 20 by unfold wrong; rw [if_pos h12])
      have i12 : (12 : Int) < l.length := by omega
      clear h12
      go_enter Tryz.func63, Tryz.ntmps63
      go_wp2
      go_ret
      exact ⟨ret_i hr.out.symm, by (repeat' (first | assumption | exact Below.refl _ _ | apply Below.next_alloc | apply Below.drew | (apply Below.next; rotate_left; assumption)))⟩
    · have hr := Lib.hid (show wrong badDay l = if l.any badDay = true then 8 else if l.Nodup then 0 else 19 by unfold wrong; rw [if_neg h12])
      go_enter Tryz.func63, Tryz.ntmps63
      go_wp2
      go_loopw [12] (fun i wr => ∃ k : Nat, k ≤ l.length ∧ i = .int .i64 k ∧ Hid ((l.take k).any badDay = false) ∧ Below w.heap.size w wr) (fun i _ => l.length - (intOf i).toNat)
      case atStart => exact ⟨0, by omega, rfl, Lib.hid (by simp), Below.refl _ _⟩
      case round =>
        obtain ⟨k, k1, rfl, hx, hB⟩ := hrel
        by_cases hk : k < l.length
        · obtain ⟨c1, c2⟩ := days_cells hlt HC.out hB k hk
          have i2 : (k : Int) < (l.length : Int) := by omega
          have i3 : (0 : Int) ≤ (k : Int) := by omega
          obtain ⟨n, hn'⟩ : ∃ n, l[k] = n := ⟨_, rfl⟩
          rw [hn'] at c1 c2
          have hany := Lib.hid (show badDay n = true → l.any badDay = true from fun h => any_of hk (by rw [hn']; exact h))
          have hnext := Lib.hid (show badDay n = false → (l.take (k + 1)).any badDay = false from fun h => by rw [any_take hk, hx.out, hn', h]; rfl)
          clear hn' hx
          obtain ⟨p, q⟩ := n
          simp only at c1 c2
          by_cases g1 : q < 0 ∨ 6 < q
          · have hr8 := Lib.hid (hr.out.trans (if_pos (hany.out (by unfold badDay; simp; omega))))
            have F := Lib.hid (wdn_bad g1)
            clear g1
            go_wp2_with (first | (go_at_call 101; refine (F.out _).mono ?_; rintro e w' ⟨⟨t, rfl, ht⟩, rfl⟩))
            go_ret
            exact ⟨ret_i hr8.out.symm, by (repeat' (first | assumption | exact Below.refl _ _ | apply Below.next_alloc | apply Below.drew | (apply Below.next; rotate_left; assumption)))⟩
          · have F := Lib.hid (wdn_good g1)
            by_cases g2 : p < -53
            · have hr8 := Lib.hid (hr.out.trans (if_pos (hany.out (by unfold badDay; simp; omega))))
              clear g1
              go_wp2_with (first | (go_at_call 101; refine (F.out _).mono ?_; rintro e w' ⟨⟨t, rfl, ht⟩, rfl⟩))
              go_ret
              exact ⟨ret_i hr8.out.symm, by (repeat' (first | assumption | exact Below.refl _ _ | apply Below.next_alloc | apply Below.drew | (apply Below.next; rotate_left; assumption)))⟩
            · by_cases g3 : 53 < p
              · have hr8 := Lib.hid (hr.out.trans (if_pos (hany.out (by unfold badDay; simp; omega))))
                clear g1
                go_wp2_with (first | (go_at_call 101; refine (F.out _).mono ?_; rintro e w' ⟨⟨t, rfl, ht⟩, rfl⟩))
                go_ret
                exact ⟨ret_i hr8.out.symm, by (repeat' (first | assumption | exact Below.refl _ _ | apply Below.next_alloc | apply Below.drew | (apply Below.next; rotate_left; assumption)))⟩
              · have hx2 := Lib.hid (hnext.out (by unfold badDay; simp; omega))
                clear g1
                go_wp2_with (first | (go_at_call 101; refine (F.out _).mono ?_; rintro e w' ⟨⟨t, rfl, ht⟩, rfl⟩))
                go_roundw
                case rel => exact ⟨k + 1, by omega, by go_num, hx2, by (repeat' (first | assumption | exact Below.refl _ _ | apply Below.next_alloc | apply Below.drew | (apply Below.next; rotate_left; assumption)))⟩
                case measure => simp [intOf]; omega
        · have hany := Lib.hid (show l.any badDay = false by have := hx.out; rwa [List.take_of_length_le (by omega)] at this)
          have hr2 := Lib.hid (hr.out.trans (if_neg (by rw [hany.out]; decide)))
          clear hx hany hr
          go_wp2
          go_loopw [33] (fun i wr => ∃ k : Nat, k ≤ l.length ∧ i = .int .i64 k ∧ Hid ((l.take k).Nodup) ∧ Below w.heap.size w wr) (fun i _ => l.length - (intOf i).toNat)
          case atStart => exact ⟨0, by omega, rfl, Lib.hid (by simp), hB⟩
          case round =>
            clear hB
            obtain ⟨k, k1, rfl, hx, hB⟩ := hrel
            by_cases hk : k < l.length
            · obtain ⟨c1, c2⟩ := days_cells hlt HC.out hB k hk
              have i2 : (k : Int) < (l.length : Int) := by omega
              have i3 : (0 : Int) ≤ (k : Int) := by omega
              have i4 : (k : Int) ≤ (cap : Int) := by omega
              have CC := Lib.hid (fun (W : World) (hW : Below w.heap.size w W) x y => C W _ (l.take k) x y (days_take hlt hcap HC.out (by omega) hW) (by rw [List.length_take]; omega))
              obtain ⟨n, hn'⟩ : ∃ n, l[k] = n := ⟨_, rfl⟩
              rw [hn'] at c1 c2
              have hnd := Lib.hid ((take_nodup hk hx.out).symm)
              rw [hn'] at hnd
              clear hn'
              obtain ⟨p, q⟩ := n
              simp only at c1 c2
              by_cases hm : (p, q) ∈ l.take k
              · have hbad := Lib.hid (show ¬ l.Nodup from fun h => hnd.out.2 (nodup_take (k + 1) h) hm)
                have d1 := decide_eq_true hm
                have hr3 := Lib.hid (hr2.out.trans (if_neg hbad.out))
                clear hm
                go_wp2
                go_region_with (go_at_call 102; refine (CC.out _ (by (repeat' (first | assumption | exact Below.refl _ _ | apply Below.next_alloc | apply Below.drew | (apply Below.next; rotate_left; assumption)))) _ _).mono ?_; rintro e w1 ⟨rfl, hB1⟩)
                all_goals
                  go_wp2
                  go_ret
                  exact ⟨ret_i hr3.out.symm, by (repeat' (first | assumption | exact Below.refl _ _ | apply Below.next_alloc | apply Below.drew | (apply Below.next; rotate_left; assumption)))⟩
              · have hx2 := Lib.hid (hnd.out.1 hm)
                have d1 := decide_eq_false hm
                clear hm
                go_wp2
                go_region_with (go_at_call 102; refine (CC.out _ (by (repeat' (first | assumption | exact Below.refl _ _ | apply Below.next_alloc | apply Below.drew | (apply Below.next; rotate_left; assumption)))) _ _).mono ?_; rintro e w1 ⟨rfl, hB1⟩)
                all_goals
                  go_wp2
                  go_roundw
                  case rel => exact ⟨k + 1, by omega, by go_num, hx2, by (repeat' (first | assumption | exact Below.refl _ _ | apply Below.next_alloc | apply Below.drew | (apply Below.next; rotate_left; assumption)))⟩
                  case measure => simp [intOf]; omega
            · have hr3 := Lib.hid (hr2.out.trans (if_pos (show l.Nodup by have := hx.out; rwa [List.take_of_length_le (by omega)] at this)))
              go_wp2
              go_ret
              exact ⟨ret_i hr3.out.symm, hB⟩
end Go.Proofs.YtkbohijlhhpfbaaGreatDoor.Ra

/- The walks through slices.IndexFunc and slices.ContainsFunc over weekdays with one closure (printed by gen_func.py). -/
namespace Go.Proofs.YtkbohijlhhpfbaaGreatDoor.Ra
open Go.RowKit Ru Ut Cw
set_option maxHeartbeats 2000000 in
theorem indexFuncF_any {w : World} {v : Value} {l : List (Int × Int)}  (P : Int × Int → Bool) (hl : Days w v l) (hn : l.length ≤ 1000000) (hp : ∀ W, Below w.heap.size w W → ∀ p q, (p, q) ∈ l → Calls Tryz.prog 105 #[.agg #[.int .i64 p, .int .i64 q]] W fun e W' => e = .returned (.bool (P (p, q))) ∧ Below W.heap.size W W') :
    Calls Tryz.prog 145 #[v, .func (.func 105) #[] #[]] w fun e w' => (∃ i : Int, e = .returned (.int .i64 i) ∧ decide (0 ≤ i) = l.any P) ∧ Below w.heap.size w w' := by
  rcases hl with ⟨rfl, a, cap, rfl, ha⟩ | ⟨h0, b, o, cap, rfl, hlt, hcap, hcell⟩
  · go_enter Tryz.func145, Tryz.ntmps145
    go_wp2
    refine wp_loop_rounds 1 ?_
    rw [rounds_succ]
    go_wp2
    go_ret
    exact ⟨⟨_, rfl, by simp⟩, by (repeat' (first | assumption | exact Below.refl _ _ | apply Below.next_alloc | apply Below.drew | (apply Below.next; rotate_left; assumption)))⟩
  · have HC := Lib.hid hcell
    have HP := Lib.hid hp
    clear hcell hp
    go_enter Tryz.func145, Tryz.ntmps145
    go_wp2
    go_loopw [8] (fun i wr => ∃ k : Nat, k ≤ l.length ∧ i = .int .i64 k ∧ Hid ((l.take k).any P = false) ∧ Below w.heap.size w wr) (fun i _ => l.length - (intOf i).toNat)
    case atStart => exact ⟨0, by omega, rfl, Lib.hid (by simp), Below.refl _ _⟩
    case round =>
      obtain ⟨k, k1, rfl, hx, hB⟩ := hrel
      by_cases hk : k < l.length
      · obtain ⟨c1, c2⟩ := days_cells hlt HC.out hB k hk
        have i2 : (k : Int) < (l.length : Int) := by omega
        have i3 : (0 : Int) ≤ (k : Int) := by omega
        obtain ⟨n, hn'⟩ : ∃ n, l[k] = n := ⟨_, rfl⟩
        have hmem : l[k] ∈ l := List.getElem_mem hk
        rw [hn'] at c1 c2 hmem
        have hany := Lib.hid (show P n = true → l.any P = true from fun h => any_of hk (by rw [hn']; exact h))
        have hnext := Lib.hid (show P n = false → (l.take (k + 1)).any P = false from fun h => by rw [any_take hk, hx.out, hn', h]; rfl)
        clear hn' hx
        obtain ⟨p, q⟩ := n
        simp only at c1 c2
        have F := Lib.hid (HP.out wr hB p q hmem)
        clear hmem
        generalize hPb : P (p, q) = t at F
        cases t
        · have hx2 := Lib.hid (hnext.out hPb)
          clear hPb
          go_wp2_with (go_at_call 105; refine F.out.mono ?_; rintro e w1 ⟨rfl, hB1⟩)
          go_roundw
          case rel => exact ⟨k + 1, by omega, by go_num, hx2, Below.next hB hB1⟩
          case measure => simp [intOf]; omega
        · have hx2 := Lib.hid (hany.out hPb)
          clear hPb
          go_wp2_with (go_at_call 105; refine F.out.mono ?_; rintro e w1 ⟨rfl, hB1⟩)
          go_ret
          exact ⟨⟨_, rfl, by rw [decide_eq_true (by omega), hx2.out]⟩, Below.next hB hB1⟩
      · have hm := Lib.hid (show l.any P = false by have := hx.out; rwa [List.take_of_length_le (by omega)] at this)
        go_wp2
        go_ret
        exact ⟨⟨_, rfl, by rw [hm.out]; rfl⟩, hB⟩
theorem containsFuncF_any {w : World} {v : Value} {l : List (Int × Int)}  (P : Int × Int → Bool) (hl : Days w v l) (hn : l.length ≤ 1000000) (hp : ∀ W, Below w.heap.size w W → ∀ p q, (p, q) ∈ l → Calls Tryz.prog 105 #[.agg #[.int .i64 p, .int .i64 q]] W fun e W' => e = .returned (.bool (P (p, q))) ∧ Below W.heap.size W W') :
    Calls Tryz.prog 104 #[v, .func (.func 105) #[] #[]] w fun e w' => e = .returned (.bool (l.any P)) ∧ Below w.heap.size w w' := by
  have F := Lib.hid (indexFuncF_any  P hl hn hp)
  have hv : ∃ a m c, v = .slice a m c := by
    rcases hl with ⟨_, a, cap, rfl, _⟩ | ⟨_, b, o, cap, rfl, _⟩
    · exact ⟨_, _, _, rfl⟩
    · exact ⟨_, _, _, rfl⟩
  obtain ⟨a, m, c, rfl⟩ := hv
  clear hl hp
  go_enter Tryz.func104, Tryz.ntmps104
  go_wp2_with (go_at_call 145; refine F.out.mono ?_; rintro e w1 ⟨⟨i, rfl, hi⟩, hB⟩)
  go_ret
  exact ⟨by first | rfl | exact ret_b hi, hB⟩
end Go.Proofs.YtkbohijlhhpfbaaGreatDoor.Ra

