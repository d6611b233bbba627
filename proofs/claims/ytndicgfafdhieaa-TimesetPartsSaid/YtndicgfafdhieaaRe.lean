/- The walk through recur's soundDays. -/
import Derived.Test.YtndicgfafdhieaaRd
import Derived.Deep.RegionWith
namespace Go.Proofs.Ytndicgfafdhieaa.Ra
open Go.RowKit Ru Ut Cw
theorem days_take {w wr : World} {blk o cap k : Nat} {l : List (Int × Int)} (hlt : blk < w.heap.size) (hcap : l.length ≤ cap) (hc : ∀ i (h : i < l.length), w.cell? ⟨blk, o + i * 2, none⟩ = some (.int .i64 l[i].1) ∧ w.cell? ⟨blk, o + i * 2 + 1, none⟩ = some (.int .i64 l[i].2)) (hk : k ≤ l.length) (hB : Below w.heap.size w wr) :
    Days wr (.slice (some ⟨blk, o, none⟩) k cap) (l.take k) := by
  have hlen : (l.take k).length = k := by rw [List.length_take]; omega
  by_cases h0 : k = 0
  · subst h0
    exact .inl ⟨rfl, _, _, rfl, fun h => by cases h⟩
  · refine .inr ⟨by omega, blk, o, cap, by rw [hlen], Nat.lt_of_lt_of_le hlt hB.size, by omega, fun i h => ?_⟩
    rw [List.getElem_take]
    exact days_cells hlt hc hB i (by omega)
theorem wdn_bad {d : Int} (h : d < 0 ∨ 6 < d) (w : World) : Calls Try.prog 47 #[.int .i64 d] w fun e w' => (∃ s, e = .returned (.string s) ∧ (s.toList == []) = true) ∧ w = w' :=
  (wdn_any d w).mono fun e w' ⟨⟨s, h1, h2⟩, h3⟩ => ⟨⟨s, h1, by rw [h2]; simpa using h⟩, h3⟩
theorem wdn_good {d : Int} (h : ¬ (d < 0 ∨ 6 < d)) (w : World) : Calls Try.prog 47 #[.int .i64 d] w fun e w' => (∃ s, e = .returned (.string s) ∧ (s.toList == []) = false) ∧ w = w' :=
  (wdn_any d w).mono fun e w' ⟨⟨s, h1, h2⟩, h3⟩ => ⟨⟨s, h1, by rw [h2]; simp; omega⟩, h3⟩
set_option maxHeartbeats 4000000 in
theorem soundDays_any {w : World} {v : Value} {l : List (Int × Int)} (hl : Days w v l) (hn : l.length ≤ 1000) :
    Calls Try.prog 39 #[v] w fun e w' => e = .returned (.int .i64 (wrong badDay l)) ∧ Below w.heap.size w w' := by
  have C := fun (wr : World) (v' : Value) (l' : List (Int × Int)) (x y : Int) (h : Days wr v' l') (hn : l'.length ≤ 1000000) => containsD_any x y h hn
  rcases hl with ⟨rfl, a', cap, rfl, ha⟩ | ⟨h0, blk, o, cap, rfl, hlt, hcap, hcell⟩
  · go_enter Try.func39, Try.ntmps39
    go_wp2
    go_rounds 1
    go_wp2
    go_rounds 1
    go_wp2
    go_ret
    exact ⟨rfl, by (repeat' (first | assumption | exact Below.refl _ _ | apply Below.next_alloc | apply Below.drew | (apply Below.next; rotate_left; assumption)))⟩
  · have HC := Lib.hid hcell
    clear hcell
    by_cases h12 : 12 < l.length
    · have hr := Lib.hid (show wrong badDay l = 20 by unfold wrong; rw [if_pos h12])
      have i12 : (12 : Int) < l.length := by omega
      clear h12
      go_enter Try.func39, Try.ntmps39
      go_wp2
      go_ret
      exact ⟨ret_i hr.out.symm, by (repeat' (first | assumption | exact Below.refl _ _ | apply Below.next_alloc | apply Below.drew | (apply Below.next; rotate_left; assumption)))⟩
    · have hr := Lib.hid (show wrong badDay l = if l.any badDay = true then 8 else if l.Nodup then 0 else 19 by unfold wrong; rw [if_neg h12])
      go_enter Try.func39, Try.ntmps39
      go_wp2
      go_loopw [12] (fun i wr => ∃ k : Nat, k ≤ l.length ∧ i = .int .i64 k ∧ Hid ((l.take k).any badDay = false) ∧ Below w.heap.size w wr) (fun i _ => l.length - (intOf i).toNat)
      case atStart => exact ⟨0, by omega, rfl, Lib.hid (by simp), Below.refl _ _⟩
      case round =>
        obtain ⟨k, k1, rfl, hx, hB⟩ := hrel
        by_cases hk : k < l.length
        · obtain ⟨c1, c2⟩ := days_cells hlt HC.out hB k hk
          have i2 : (k : Int) < (l.length : Int) := by omega
          have i3 : (0 : Int) ≤ (k : Int) := by omega
          obtain ⟨n, hn'⟩ : ∃ n, l[k] = n := ⟨_, rfl⟩
          rw [hn'] at c1 c2
          have hany := Lib.hid (show badDay n = true → l.any badDay = true from fun h => any_of hk (by rw [hn']; exact h))
          have hnext := Lib.hid (show badDay n = false → (l.take (k + 1)).any badDay = false from fun h => by rw [any_take hk, hx.out, hn', h]; rfl)
          clear hn' hx
          obtain ⟨p, q⟩ := n
          simp only at c1 c2
          by_cases g1 : q < 0 ∨ 6 < q
          · have hr8 := Lib.hid (hr.out.trans (if_pos (hany.out (by unfold badDay; simp; omega))))
            have F := Lib.hid (wdn_bad g1)
            clear g1
            go_wp2_with (first | (go_at_call 47; refine (F.out _).mono ?_; rintro e w' ⟨⟨t, rfl, ht⟩, rfl⟩))
            go_ret
            exact ⟨ret_i hr8.out.symm, by (repeat' (first | assumption | exact Below.refl _ _ | apply Below.next_alloc | apply Below.drew | (apply Below.next; rotate_left; assumption)))⟩
          · have F := Lib.hid (wdn_good g1)
            by_cases g2 : p < -53
            · have hr8 := Lib.hid (hr.out.trans (if_pos (hany.out (by unfold badDay; simp; omega))))
              clear g1
              go_wp2_with (first | (go_at_call 47; refine (F.out _).mono ?_; rintro e w' ⟨⟨t, rfl, ht⟩, rfl⟩))
              go_ret
              exact ⟨ret_i hr8.out.symm, by (repeat' (first | assumption | exact Below.refl _ _ | apply Below.next_alloc | apply Below.drew | (apply Below.next; rotate_left; assumption)))⟩
            · by_cases g3 : 53 < p
              · have hr8 := Lib.hid (hr.out.trans (if_pos (hany.out (by unfold badDay; simp; omega))))
                clear g1
                go_wp2_with (first | (go_at_call 47; refine (F.out _).mono ?_; rintro e w' ⟨⟨t, rfl, ht⟩, rfl⟩))
                go_ret
                exact ⟨ret_i hr8.out.symm, by (repeat' (first | assumption | exact Below.refl _ _ | apply Below.next_alloc | apply Below.drew | (apply Below.next; rotate_left; assumption)))⟩
              · have hx2 := Lib.hid (hnext.out (by unfold badDay; simp; omega))
                clear g1
                go_wp2_with (first | (go_at_call 47; refine (F.out _).mono ?_; rintro e w' ⟨⟨t, rfl, ht⟩, rfl⟩))
                go_roundw
                case rel => exact ⟨k + 1, by omega, by go_num, hx2, by (repeat' (first | assumption | exact Below.refl _ _ | apply Below.next_alloc | apply Below.drew | (apply Below.next; rotate_left; assumption)))⟩
                case measure => simp [intOf]; omega
        · have hany := Lib.hid (show l.any badDay = false by have := hx.out; rwa [List.take_of_length_le (by omega)] at this)
          have hr2 := Lib.hid (hr.out.trans (if_neg (by rw [hany.out]; decide)))
          clear hx hany hr
          go_wp2
          go_loopw [33] (fun i wr => ∃ k : Nat, k ≤ l.length ∧ i = .int .i64 k ∧ Hid ((l.take k).Nodup) ∧ Below w.heap.size w wr) (fun i _ => l.length - (intOf i).toNat)
          case atStart => exact ⟨0, by omega, rfl, Lib.hid (by simp), hB⟩
          case round =>
            clear hB
            obtain ⟨k, k1, rfl, hx, hB⟩ := hrel
            by_cases hk : k < l.length
            · obtain ⟨c1, c2⟩ := days_cells hlt HC.out hB k hk
              have i2 : (k : Int) < (l.length : Int) := by omega
              have i3 : (0 : Int) ≤ (k : Int) := by omega
              have i4 : (k : Int) ≤ (cap : Int) := by omega
              have CC := Lib.hid (fun (W : World) (hW : Below w.heap.size w W) x y => C W _ (l.take k) x y (days_take hlt hcap HC.out (by omega) hW) (by rw [List.length_take]; omega))
              obtain ⟨n, hn'⟩ : ∃ n, l[k] = n := ⟨_, rfl⟩
              rw [hn'] at c1 c2
              have hnd := Lib.hid ((take_nodup hk hx.out).symm)
              rw [hn'] at hnd
              clear hn'
              obtain ⟨p, q⟩ := n
              simp only at c1 c2
              by_cases hm : (p, q) ∈ l.take k
              · have hbad := Lib.hid (show ¬ l.Nodup from fun h => hnd.out.2 (nodup_take (k + 1) h) hm)
                have d1 := decide_eq_true hm
                have hr3 := Lib.hid (hr2.out.trans (if_neg hbad.out))
                clear hm
                go_wp2
                go_region_with (go_at_call 49; refine (CC.out _ (by (repeat' (first | assumption | exact Below.refl _ _ | apply Below.next_alloc | apply Below.drew | (apply Below.next; rotate_left; assumption)))) _ _).mono ?_; rintro e w1 ⟨rfl, hB1⟩)
                all_goals
                  go_wp2
                  go_ret
                  exact ⟨ret_i hr3.out.symm, by (repeat' (first | assumption | exact Below.refl _ _ | apply Below.next_alloc | apply Below.drew | (apply Below.next; rotate_left; assumption)))⟩
              · have hx2 := Lib.hid (hnd.out.1 hm)
                have d1 := decide_eq_false hm
                clear hm
                go_wp2
                go_region_with (go_at_call 49; refine (CC.out _ (by (repeat' (first | assumption | exact Below.refl _ _ | apply Below.next_alloc | apply Below.drew | (apply Below.next; rotate_left; assumption)))) _ _).mono ?_; rintro e w1 ⟨rfl, hB1⟩)
                all_goals
                  go_wp2
                  go_roundw
                  case rel => exact ⟨k + 1, by omega, by go_num, hx2, by (repeat' (first | assumption | exact Below.refl _ _ | apply Below.next_alloc | apply Below.drew | (apply Below.next; rotate_left; assumption)))⟩
                  case measure => simp [intOf]; omega
            · have hr3 := Lib.hid (hr2.out.trans (if_pos (show l.Nodup by have := hx.out; rwa [List.take_of_length_le (by omega)] at this)))
              go_wp2
              go_ret
              exact ⟨ret_i hr3.out.symm, hB⟩
end Go.Proofs.Ytndicgfafdhieaa.Ra
