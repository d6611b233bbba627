import Derived.Test.YtkbohijlhhpfbaaGreatDoorVYh
import Derived.Test.YtkbohijlhhpfbaaGreatDoorVMb
import Derived.Deep.RegionWith
/- The walks through slices.Contains over weekdays, and through recur's soundDays. -/
namespace Go.Proofs.YtkbohijlhhpfbaaGreatDoor.Ra
open Go.RowKit Ru Ut Cw
theorem eqD (a b c d : Int) (W : World) : (Op.equalIn 10000 77 (.agg #[.int .i64 a, .int .i64 b]) (.agg #[.int .i64 c, .int .i64 d])).run Tryz.prog W = .ok (decide (a = c) && decide (b = d)) W := by
 rw [run_equalIn_struct W 9999 _ _ _ (by kernel_rfl) (by kernel_rfl)]
 by_cases h1 : a = c <;> by_cases h2 : b = d <;> simp [go_sem, Tryz.underlying77, Tryz.underlying3, h1, h2]
theorem eqD_no {a b c d : Int} (h : ¬ (a, b) = (c, d)) (W : World) : (Op.equalIn 10000 77 (.agg #[.int .i64 a, .int .i64 b]) (.agg #[.int .i64 c, .int .i64 d])).run Tryz.prog W = .ok false W := by
 rw [eqD]
 by_cases h1 : a = c
 ·have h2 : ¬ b = d := fun h2 => h (by rw [h1, h2])
  simp [h2]
 ·simp [h1]
theorem eqD_yes (a b : Int) (W : World) : (Op.equalIn 10000 77 (.agg #[.int .i64 a, .int .i64 b]) (.agg #[.int .i64 a, .int .i64 b])).run Tryz.prog W = .ok true W := by rw [eqD]; simp
theorem days_cells {w wr : World} {blk o : Nat} {l : List (Int × Int)} (hlt : blk < w.heap.size) (hc : ∀ i (h : i < l.length), w.cell? ⟨blk, o + i * 2, none⟩ = some (.int .i64 l[i].1) ∧ w.cell? ⟨blk, o + i * 2 + 1, none⟩ = some (.int .i64 l[i].2)) (hB : Below w.heap.size w wr) (k : Nat) (hk : k < l.length) :
  wr.cell? ⟨blk, o + k * 2, none⟩ = some (.int .i64 l[k].1) ∧ wr.cell? ⟨blk, o + k * 2 + 1, none⟩ = some (.int .i64 l[k].2) :=
 ⟨(hB.cell (p := ⟨blk, o + k * 2, none⟩) hlt).trans (hc k hk).1, (hB.cell (p := ⟨blk, o + k * 2 + 1, none⟩) hlt).trans (hc k hk).2⟩
set_option maxHeartbeats 2000000 in
theorem indexD_any {w : World} {v : Value} {l : List (Int × Int)} (x y : Int) (hl : Days w v l) (hn : l.length ≤ 1000000) :
  Calls Tryz.prog 144 #[v, .agg #[.int .i64 x, .int .i64 y]] w fun e w' => (∃ i : Int, e = .returned (.int .i64 i) ∧ decide (0 ≤ i) = decide ((x, y) ∈ l)) ∧ Below w.heap.size w w' := by
 rcases hl with ⟨rfl, a, cap, rfl, ha⟩ | ⟨h0, b, o, cap, rfl, hlt, hcap, hcell⟩
 ·go_enter Tryz.func144, Tryz.ntmps144
  go_wp2
  refine wp_loop_rounds 1 ?_
  rw [rounds_succ]
  go_wp2
  go_ret
  exact ⟨⟨_, rfl, by simp⟩, by (repeat' (first|assumption|exact Below.refl _ _|apply Below.next_alloc|apply Below.drew|(apply Below.next;rotate_left;assumption)))⟩
 ·have HC := Lib.hid hcell
  clear hcell
  go_enter Tryz.func144, Tryz.ntmps144
  go_wp2
  go_loopw [8] (fun i wr => ∃ k : Nat, k ≤ l.length ∧ i = .int .i64 k ∧ Hid ((x, y) ∉ l.take k) ∧ Hid (Below (w.alloc (.cells #[.int .i64 x, .int .i64 y] 77)).heap.size (w.alloc (.cells #[.int .i64 x, .int .i64 y] 77)) wr)) (fun i _ => l.length - (intOf i).toNat)
  case atStart => exact ⟨0, by omega, rfl, Lib.hid (by simp), Lib.hid (Below.refl _ _)⟩
  case round =>
   obtain ⟨k, k1, rfl, hx, hB⟩ := hrel
   by_cases hk : k < l.length
   ·obtain ⟨c1, c2⟩ := days_cells hlt HC.out (Below.next_allocs' hB.out) k hk
    obtain ⟨hlt3, e0, e1⟩ := Ma.boxed hB.out
    have i2 : (k : Int) < (l.length : Int) := by omega
    have i3 : (0 : Int) ≤ (k : Int) := by omega
    by_cases he : (x, y) = l[k]
    ·have hm := Lib.hid (show (x, y) ∈ l by rw [he]; exact List.getElem_mem hk)
     rw [← he] at c1 c2
     have hE := eqD_yes x y
     clear he
     go_wp2
     go_quiet (fail)
     go_wp2
     go_ret
     exact ⟨⟨_, rfl, by rw [decide_eq_true (by omega), decide_eq_true hm.out]⟩, Base.below_drewN (Below.next_allocs' hB.out) _⟩
    ·have hx2 := Lib.hid (show (x, y) ∉ l.take (k + 1) by
      rw [List.take_succ_eq_append_getElem hk, List.mem_append]
      rintro (h | h)
      ·exact hx.out h
      ·exact he (List.mem_singleton.1 h))
     have hE := eqD_no (a := x) (b := y) (c := l[k].1) (d := l[k].2) he
     clear he hx
     go_wp2
     go_quiet (fail)
     go_wp2
     go_roundw
     case rel => exact ⟨k + 1, by omega, by go_num, hx2, Lib.hid (Base.below_drewN hB.out _)⟩
     case measure => simp [intOf]; omega
   ·have hm := Lib.hid (show (x, y) ∉ l by have := hx.out; rwa [List.take_of_length_le (by omega)] at this)
    go_wp2
    go_ret
    exact ⟨⟨_, rfl, by rw [decide_eq_false hm.out]; rfl⟩, Below.next_allocs' hB.out⟩
theorem containsD_any {w : World} {v : Value} {l : List (Int × Int)} (x y : Int) (hl : Days w v l) (hn : l.length ≤ 1000000) :
  Calls Tryz.prog 102 #[v, .agg #[.int .i64 x, .int .i64 y]] w fun e w' => e = .returned (.bool (decide ((x, y) ∈ l))) ∧ Below w.heap.size w w' := by
 have F := Lib.hid (indexD_any (w := w.alloc (.cells #[.int .i64 x, .int .i64 y] 77)) x y (hl.below (Below.next_alloc (Below.refl _ w) _)) hn)
 have hv : ∃ a m c, v = .slice a m c := by
  rcases hl with ⟨_, a, cap, rfl, _⟩ | ⟨_, b, o, cap, rfl, _⟩
  ·exact ⟨_, _, _, rfl⟩
  ·exact ⟨_, _, _, rfl⟩
 obtain ⟨a, m, c, rfl⟩ := hv
 clear hl
 go_enter Tryz.func102, Tryz.ntmps102
 go_wp2_with (first | (go_at_call 144; refine (F.out).mono ?_; rintro e w' ⟨⟨i, rfl, hi⟩, hB⟩))
 go_ret
 exact ⟨rfl, Below.next_allocs' hB⟩
end Go.Proofs.YtkbohijlhhpfbaaGreatDoor.Ra
/- The walk through recur's soundDays. -/
namespace Go.Proofs.YtkbohijlhhpfbaaGreatDoor.Ra
open Go.RowKit Ru Ut Cw
theorem days_take {w wr : World} {blk o cap k : Nat} {l : List (Int × Int)} (hlt : blk < w.heap.size) (hcap : l.length ≤ cap) (hc : ∀ i (h : i < l.length), w.cell? ⟨blk, o + i * 2, none⟩ = some (.int .i64 l[i].1) ∧ w.cell? ⟨blk, o + i * 2 + 1, none⟩ = some (.int .i64 l[i].2)) (hk : k ≤ l.length) (hB : Below w.heap.size w wr) :
  Days wr (.slice (some ⟨blk, o, none⟩) k cap) (l.take k) := by
 have hlen : (l.take k).length = k := by rw [List.length_take]; omega
 by_cases h0 : k = 0
 ·subst h0
  exact .inl ⟨rfl, _, _, rfl, fun h => by cases h⟩
 ·refine .inr ⟨by omega, blk, o, cap, by rw [hlen], Nat.lt_of_lt_of_le hlt hB.size, by omega, fun i h => ?_⟩
  rw [List.getElem_take]
  exact days_cells hlt hc hB i (by omega)
theorem wdn_bad {d : Int} (h : d < 0 ∨ 6 < d) (w : World) : Calls Tryz.prog 101 #[.int .i64 d] w fun e w' => (∃ s, e = .returned (.string s) ∧ (s.toList == []) = true) ∧ w = w' :=
 (wdn_any d w).mono fun e w' ⟨⟨s, h1, h2⟩, h3⟩ => ⟨⟨s, h1, by rw [h2]; simpa using h⟩, h3⟩
theorem wdn_good {d : Int} (h : ¬ (d < 0 ∨ 6 < d)) (w : World) : Calls Tryz.prog 101 #[.int .i64 d] w fun e w' => (∃ s, e = .returned (.string s) ∧ (s.toList == []) = false) ∧ w = w' :=
 (wdn_any d w).mono fun e w' ⟨⟨s, h1, h2⟩, h3⟩ => ⟨⟨s, h1, by rw [h2]; simp; omega⟩, h3⟩
set_option maxHeartbeats 4000000 in
theorem soundDays_any {w : World} {v : Value} {l : List (Int × Int)} (hl : Days w v l) (hn : l.length ≤ 1000) :
  Calls Tryz.prog 63 #[v] w fun e w' => e = .returned (.int .i64 (wrong badDay l)) ∧ Below w.heap.size w w' := by
 have C := fun (wr : World) (v' : Value) (l' : List (Int × Int)) (x y : Int) (h : Days wr v' l') (hn : l'.length ≤ 1000000) => containsD_any x y h hn
 rcases hl with ⟨rfl, a', cap, rfl, ha⟩ | ⟨h0, blk, o, cap, rfl, hlt, hcap, hcell⟩
 ·go_enter Tryz.func63, Tryz.ntmps63
  go_wp2
  go_rounds 1
  go_wp2
  go_rounds 1
  go_wp2
  go_ret
  exact ⟨rfl, by (repeat' (first|assumption|exact Below.refl _ _|apply Below.next_alloc|apply Below.drew|(apply Below.next;rotate_left;assumption)))⟩
 ·have HC := Lib.hid hcell
  clear hcell
  by_cases h12 : 12 < l.length
  ·have hr := Lib.hid (show wrong badDay l = 20 by unfold wrong; rw [if_pos h12])
   have i12 : (12 : Int) < l.length := by omega
   clear h12
   go_enter Tryz.func63, Tryz.ntmps63
   go_wp2
   go_ret
   exact ⟨ret_i hr.out.symm, by (repeat' (first|assumption|exact Below.refl _ _|apply Below.next_alloc|apply Below.drew|(apply Below.next;rotate_left;assumption)))⟩
  ·have hr := Lib.hid (show wrong badDay l = if l.any badDay = true then 8 else if l.Nodup then 0 else 19 by unfold wrong; rw [if_neg h12])
   go_enter Tryz.func63, Tryz.ntmps63
   go_wp2
   go_loopw [12] (fun i wr => ∃ k : Nat, k ≤ l.length ∧ i = .int .i64 k ∧ Hid ((l.take k).any badDay = false) ∧ Below w.heap.size w wr) (fun i _ => l.length - (intOf i).toNat)
   case atStart => exact ⟨0, by omega, rfl, Lib.hid (by simp), Below.refl _ _⟩
   case round =>
    obtain ⟨k, k1, rfl, hx, hB⟩ := hrel
    by_cases hk : k < l.length
    ·obtain ⟨c1, c2⟩ := days_cells hlt HC.out hB k hk
     have i2 : (k : Int) < (l.length : Int) := by omega
     have i3 : (0 : Int) ≤ (k : Int) := by omega
     obtain ⟨n, hn'⟩ : ∃ n, l[k] = n := ⟨_, rfl⟩
     rw [hn'] at c1 c2
     have hany := Lib.hid (show badDay n = true → l.any badDay = true from fun h => any_of hk (by rw [hn']; exact h))
     have hnext := Lib.hid (show badDay n = false → (l.take (k + 1)).any badDay = false from fun h => by rw [any_take hk, hx.out, hn', h]; rfl)
     clear hn' hx
     obtain ⟨p, q⟩ := n
     simp only at c1 c2
     by_cases g1 : q < 0 ∨ 6 < q
     ·have hr8 := Lib.hid (hr.out.trans (if_pos (hany.out (by unfold badDay; simp; omega))))
      have F := Lib.hid (wdn_bad g1)
      clear g1
      go_wp2_with (first | (go_at_call 101; refine (F.out _).mono ?_; rintro e w' ⟨⟨t, rfl, ht⟩, rfl⟩))
      go_ret
      exact ⟨ret_i hr8.out.symm, by (repeat' (first|assumption|exact Below.refl _ _|apply Below.next_alloc|apply Below.drew|(apply Below.next;rotate_left;assumption)))⟩
     ·have F := Lib.hid (wdn_good g1)
      by_cases g2 : p < -53
      ·have hr8 := Lib.hid (hr.out.trans (if_pos (hany.out (by unfold badDay; simp; omega))))
       clear g1
       go_wp2_with (first | (go_at_call 101; refine (F.out _).mono ?_; rintro e w' ⟨⟨t, rfl, ht⟩, rfl⟩))
       go_ret
       exact ⟨ret_i hr8.out.symm, by (repeat' (first|assumption|exact Below.refl _ _|apply Below.next_alloc|apply Below.drew|(apply Below.next;rotate_left;assumption)))⟩
      ·by_cases g3 : 53 < p
       ·have hr8 := Lib.hid (hr.out.trans (if_pos (hany.out (by unfold badDay; simp; omega))))
        clear g1
        go_wp2_with (first | (go_at_call 101; refine (F.out _).mono ?_; rintro e w' ⟨⟨t, rfl, ht⟩, rfl⟩))
        go_ret
        exact ⟨ret_i hr8.out.symm, by (repeat' (first|assumption|exact Below.refl _ _|apply Below.next_alloc|apply Below.drew|(apply Below.next;rotate_left;assumption)))⟩
       ·have hx2 := Lib.hid (hnext.out (by unfold badDay; simp; omega))
        clear g1
        go_wp2_with (first | (go_at_call 101; refine (F.out _).mono ?_; rintro e w' ⟨⟨t, rfl, ht⟩, rfl⟩))
        go_roundw
        case rel => exact ⟨k + 1, by omega, by go_num, hx2, by (repeat' (first|assumption|exact Below.refl _ _|apply Below.next_alloc|apply Below.drew|(apply Below.next;rotate_left;assumption)))⟩
        case measure => simp [intOf]; omega
    ·have hany := Lib.hid (show l.any badDay = false by have := hx.out; rwa [List.take_of_length_le (by omega)] at this)
     have hr2 := Lib.hid (hr.out.trans (if_neg (by rw [hany.out]; decide)))
     clear hx hany hr
     go_wp2
     go_loopw [33] (fun i wr => ∃ k : Nat, k ≤ l.length ∧ i = .int .i64 k ∧ Hid ((l.take k).Nodup) ∧ Below w.heap.size w wr) (fun i _ => l.length - (intOf i).toNat)
     case atStart => exact ⟨0, by omega, rfl, Lib.hid (by simp), hB⟩
     case round =>
      clear hB
      obtain ⟨k, k1, rfl, hx, hB⟩ := hrel
      by_cases hk : k < l.length
      ·obtain ⟨c1, c2⟩ := days_cells hlt HC.out hB k hk
       have i2 : (k : Int) < (l.length : Int) := by omega
       have i3 : (0 : Int) ≤ (k : Int) := by omega
       have i4 : (k : Int) ≤ (cap : Int) := by omega
       have CC := Lib.hid (fun (W : World) (hW : Below w.heap.size w W) x y => C W _ (l.take k) x y (days_take hlt hcap HC.out (by omega) hW) (by rw [List.length_take]; omega))
       obtain ⟨n, hn'⟩ : ∃ n, l[k] = n := ⟨_, rfl⟩
       rw [hn'] at c1 c2
       have hnd := Lib.hid ((take_nodup hk hx.out).symm)
       rw [hn'] at hnd
       clear hn'
       obtain ⟨p, q⟩ := n
       simp only at c1 c2
       by_cases hm : (p, q) ∈ l.take k
       ·have hbad := Lib.hid (show ¬ l.Nodup from fun h => hnd.out.2 (nodup_take (k + 1) h) hm)
        have d1 := decide_eq_true hm
        have hr3 := Lib.hid (hr2.out.trans (if_neg hbad.out))
        clear hm
        go_wp2
        go_region_with (go_at_call 102; refine (CC.out _ (by (repeat' (first|assumption|exact Below.refl _ _|apply Below.next_alloc|apply Below.drew|(apply Below.next;rotate_left;assumption)))) _ _).mono ?_; rintro e w1 ⟨rfl, hB1⟩)
        all_goals
         go_wp2
         go_ret
         exact ⟨ret_i hr3.out.symm, by (repeat' (first|assumption|exact Below.refl _ _|apply Below.next_alloc|apply Below.drew|(apply Below.next;rotate_left;assumption)))⟩
       ·have hx2 := Lib.hid (hnd.out.1 hm)
        have d1 := decide_eq_false hm
        clear hm
        go_wp2
        go_region_with (go_at_call 102; refine (CC.out _ (by (repeat' (first|assumption|exact Below.refl _ _|apply Below.next_alloc|apply Below.drew|(apply Below.next;rotate_left;assumption)))) _ _).mono ?_; rintro e w1 ⟨rfl, hB1⟩)
        all_goals
         go_wp2
         go_roundw
         case rel => exact ⟨k + 1, by omega, by go_num, hx2, by (repeat' (first|assumption|exact Below.refl _ _|apply Below.next_alloc|apply Below.drew|(apply Below.next;rotate_left;assumption)))⟩
         case measure => simp [intOf]; omega
      ·have hr3 := Lib.hid (hr2.out.trans (if_pos (show l.Nodup by have := hx.out; rwa [List.take_of_length_le (by omega)] at this)))
       go_wp2
       go_ret
       exact ⟨ret_i hr3.out.symm, hB⟩
end Go.Proofs.YtkbohijlhhpfbaaGreatDoor.Ra
/- The walks through slices.IndexFunc and slices.ContainsFunc over weekdays with one closure (printed by gen_func.py). -/
namespace Go.Proofs.YtkbohijlhhpfbaaGreatDoor.Ra
open Go.RowKit Ru Ut Cw
set_option maxHeartbeats 2000000 in
theorem indexFuncF_any {w : World} {v : Value} {l : List (Int × Int)}  (P : Int × Int → Bool) (hl : Days w v l) (hn : l.length ≤ 1000000) (hp : ∀ W, Below w.heap.size w W → ∀ p q, (p, q) ∈ l → Calls Tryz.prog 105 #[.agg #[.int .i64 p, .int .i64 q]] W fun e W' => e = .returned (.bool (P (p, q))) ∧ Below W.heap.size W W') :
  Calls Tryz.prog 145 #[v, .func (.func 105) #[] #[]] w fun e w' => (∃ i : Int, e = .returned (.int .i64 i) ∧ decide (0 ≤ i) = l.any P) ∧ Below w.heap.size w w' := by
 rcases hl with ⟨rfl, a, cap, rfl, ha⟩ | ⟨h0, b, o, cap, rfl, hlt, hcap, hcell⟩
 ·go_enter Tryz.func145, Tryz.ntmps145
  go_wp2
  refine wp_loop_rounds 1 ?_
  rw [rounds_succ]
  go_wp2
  go_ret
  exact ⟨⟨_, rfl, by simp⟩, by (repeat' (first|assumption|exact Below.refl _ _|apply Below.next_alloc|apply Below.drew|(apply Below.next;rotate_left;assumption)))⟩
 ·have HC := Lib.hid hcell
  have HP := Lib.hid hp
  clear hcell hp
  go_enter Tryz.func145, Tryz.ntmps145
  go_wp2
  go_loopw [8] (fun i wr => ∃ k : Nat, k ≤ l.length ∧ i = .int .i64 k ∧ Hid ((l.take k).any P = false) ∧ Below w.heap.size w wr) (fun i _ => l.length - (intOf i).toNat)
  case atStart => exact ⟨0, by omega, rfl, Lib.hid (by simp), Below.refl _ _⟩
  case round =>
   obtain ⟨k, k1, rfl, hx, hB⟩ := hrel
   by_cases hk : k < l.length
   ·obtain ⟨c1, c2⟩ := days_cells hlt HC.out hB k hk
    have i2 : (k : Int) < (l.length : Int) := by omega
    have i3 : (0 : Int) ≤ (k : Int) := by omega
    obtain ⟨n, hn'⟩ : ∃ n, l[k] = n := ⟨_, rfl⟩
    have hmem : l[k] ∈ l := List.getElem_mem hk
    rw [hn'] at c1 c2 hmem
    have hany := Lib.hid (show P n = true → l.any P = true from fun h => any_of hk (by rw [hn']; exact h))
    have hnext := Lib.hid (show P n = false → (l.take (k + 1)).any P = false from fun h => by rw [any_take hk, hx.out, hn', h]; rfl)
    clear hn' hx
    obtain ⟨p, q⟩ := n
    simp only at c1 c2
    have F := Lib.hid (HP.out wr hB p q hmem)
    clear hmem
    generalize hPb : P (p, q) = t at F
    cases t
    ·have hx2 := Lib.hid (hnext.out hPb)
     clear hPb
     go_wp2_with (go_at_call 105; refine F.out.mono ?_; rintro e w1 ⟨rfl, hB1⟩)
     go_roundw
     case rel => exact ⟨k + 1, by omega, by go_num, hx2, Below.next hB hB1⟩
     case measure => simp [intOf]; omega
    ·have hx2 := Lib.hid (hany.out hPb)
     clear hPb
     go_wp2_with (go_at_call 105; refine F.out.mono ?_; rintro e w1 ⟨rfl, hB1⟩)
     go_ret
     exact ⟨⟨_, rfl, by rw [decide_eq_true (by omega), hx2.out]⟩, Below.next hB hB1⟩
   ·have hm := Lib.hid (show l.any P = false by have := hx.out; rwa [List.take_of_length_le (by omega)] at this)
    go_wp2
    go_ret
    exact ⟨⟨_, rfl, by rw [hm.out]; rfl⟩, hB⟩
theorem containsFuncF_any {w : World} {v : Value} {l : List (Int × Int)}  (P : Int × Int → Bool) (hl : Days w v l) (hn : l.length ≤ 1000000) (hp : ∀ W, Below w.heap.size w W → ∀ p q, (p, q) ∈ l → Calls Tryz.prog 105 #[.agg #[.int .i64 p, .int .i64 q]] W fun e W' => e = .returned (.bool (P (p, q))) ∧ Below W.heap.size W W') :
  Calls Tryz.prog 104 #[v, .func (.func 105) #[] #[]] w fun e w' => e = .returned (.bool (l.any P)) ∧ Below w.heap.size w w' := by
 have F := Lib.hid (indexFuncF_any  P hl hn hp)
 have hv : ∃ a m c, v = .slice a m c := by
  rcases hl with ⟨_, a, cap, rfl, _⟩ | ⟨_, b, o, cap, rfl, _⟩
  ·exact ⟨_, _, _, rfl⟩
  ·exact ⟨_, _, _, rfl⟩
 obtain ⟨a, m, c, rfl⟩ := hv
 clear hl hp
 go_enter Tryz.func104, Tryz.ntmps104
 go_wp2_with (go_at_call 145; refine F.out.mono ?_; rintro e w1 ⟨⟨i, rfl, hi⟩, hB⟩)
 go_ret
 exact ⟨by first | rfl | exact ret_b hi, hB⟩
end Go.Proofs.YtkbohijlhhpfbaaGreatDoor.Ra
/- A rule as it lies in memory; the walk through its head. -/
namespace Go.Proofs.YtkbohijlhhpfbaaGreatDoor.Ra
open Go.RowKit Ru Ut Cw
def RAt (W : World) (b : Nat) (r : R) (sv : Nat → Value) : Prop :=
 b < W.heap.size ∧ W.cell? ⟨b, 0, none⟩ = some (.int .u8 r.freq) ∧ W.cell? ⟨b, 1, none⟩ = some (.int .i64 r.interval) ∧ W.cell? ⟨b, 2, none⟩ = some (.int .i64 r.count) ∧ W.cell? ⟨b, 3, none⟩ = some (.int .u8 r.uk) ∧ W.cell? ⟨b, 4, none⟩ = some (.int .i64 r.us) ∧
  W.cell? ⟨b, 14, none⟩ = some (.int .i64 r.wkst) ∧ (∀ q, 4 ≤ q → q ≤ 12 → W.cell? ⟨b, q + 1, none⟩ = some (sv q))
def Lists (W : World) (r : R) (sv : Nat → Value) : Prop := (∀ q, 4 ≤ q → q ≤ 12 → q ≠ 7 → Ints W (sv q) (lst r q)) ∧ Days W (sv 7) r.day
theorem RAt.later {W W2 : World} {b : Nat} {r : R} {sv : Nat → Value} (h : RAt W b r sv) (hB : Below W.heap.size W W2) : RAt W2 b r sv := by
 obtain ⟨h0, h1, h2, h3, h4, h5, h6, h7⟩ := h
 have keep : ∀ i v, W.cell? ⟨b, i, none⟩ = some v → W2.cell? ⟨b, i, none⟩ = some v := fun i v hv => (hB.cell (p := ⟨b, i, none⟩) h0).trans hv
 exact ⟨Nat.lt_of_lt_of_le h0 hB.size, keep _ _ h1, keep _ _ h2, keep _ _ h3, keep _ _ h4, keep _ _ h5, keep _ _ h6, fun q h4 h12 => keep _ _ (h7 q h4 h12)⟩
theorem Lists.later {W W2 : World} {r : R} {sv : Nat → Value} (h : Lists W r sv) (hB : Below W.heap.size W W2) : Lists W2 r sv :=
 ⟨fun q h4 h12 h7 => (h.1 q h4 h12 h7).below hB, h.2.below hB⟩
def ruleC (r : R) (sv : Nat → Value) : Array Value := #[.int .u8 r.freq, .int .i64 r.interval, .int .i64 r.count, .int .u8 r.uk, .int .i64 r.us, sv 4, sv 5, sv 6, sv 7, sv 8, sv 9, sv 10, sv 11, sv 12, .int .i64 r.wkst]
theorem RAt.box (w : World) (r : R) (sv : Nat → Value) (t : TypeId) : RAt (w.alloc (.cells (ruleC r sv) t)) w.heap.size r sv := by
 refine ⟨by simp, World.cell?_alloc_mark w (ruleC r sv) t (0, 0) 0, World.cell?_alloc_mark w (ruleC r sv) t (0, 0) 1, World.cell?_alloc_mark w (ruleC r sv) t (0, 0) 2, World.cell?_alloc_mark w (ruleC r sv) t (0, 0) 3, World.cell?_alloc_mark w (ruleC r sv) t (0, 0) 4, World.cell?_alloc_mark w (ruleC r sv) t (0, 0) 14, fun q h4 h12 => ?_⟩
 have hc : q = 4 ∨ q = 5 ∨ q = 6 ∨ q = 7 ∨ q = 8 ∨ q = 9 ∨ q = 10 ∨ q = 11 ∨ q = 12 := by omega
 rcases hc with rfl | rfl | rfl | rfl | rfl | rfl | rfl | rfl | rfl
 ·exact World.cell?_alloc_mark w (ruleC r sv) t (0, 0) 5
 ·exact World.cell?_alloc_mark w (ruleC r sv) t (0, 0) 6
 ·exact World.cell?_alloc_mark w (ruleC r sv) t (0, 0) 7
 ·exact World.cell?_alloc_mark w (ruleC r sv) t (0, 0) 8
 ·exact World.cell?_alloc_mark w (ruleC r sv) t (0, 0) 9
 ·exact World.cell?_alloc_mark w (ruleC r sv) t (0, 0) 10
 ·exact World.cell?_alloc_mark w (ruleC r sv) t (0, 0) 11
 ·exact World.cell?_alloc_mark w (ruleC r sv) t (0, 0) 12
 ·exact World.cell?_alloc_mark w (ruleC r sv) t (0, 0) 13
theorem head_one {r : R} (h : 6 < r.freq) : head r = 11 := by unfold head; rw [if_pos h]
theorem head_two {r : R} (h : ¬ 6 < r.freq) (h2 : r.interval < 1 ∨ 1000 < r.interval ∨ r.count < 0 ∨ 1000 < r.count ∨ r.wkst < 0 ∨ 6 < r.wkst) : head r = 8 := by unfold head; rw [if_neg h, if_pos h2]
theorem head_rest {r : R} (h : ¬ 6 < r.freq) (h2 : ¬ (r.interval < 1 ∨ 1000 < r.interval ∨ r.count < 0 ∨ 1000 < r.count ∨ r.wkst < 0 ∨ 6 < r.wkst)) :
  head r = if r.uk = 0 ∧ r.us = 0 then 0 else if r.uk = 0 then 2 else if Mo.chk r.uk r.us ≠ 0 then Mo.chk r.uk r.us else if 0 < r.count then 9 else 0 := by unfold head; rw [if_neg h, if_neg h2]
attribute [local go_sem] Ma.eqV
set_option maxHeartbeats 4000000 in
set_option maxRecDepth 100000 in
theorem head_any (w : World) (b : Nat) (r : R) (sv : Nat → Value) (hR : RAt w b r sv) (hu : 0 ≤ r.uk ∧ r.uk ≤ 255) : Calls Tryz.prog 62 #[.pointer (some ⟨b, 0, none⟩)] w fun e w' => e = .returned (.int .i64 (head r)) ∧ Below w.heap.size w w' := by
 obtain ⟨hb, c0, c1, c2, c3, c4, c14, -⟩ := hR
 by_cases h1 : 6 < r.freq
 ·have hr := Lib.hid (head_one h1)
  go_enter Tryz.func62, Tryz.ntmps62
  go_wp2
  go_ret
  exact ⟨ret_i hr.out.symm, by (repeat' (first|assumption|exact Below.refl _ _|apply Below.next_alloc|apply Below.drew|(apply Below.next;rotate_left;assumption)))⟩
 ·by_cases h2 : r.interval < 1
  ·have hr := Lib.hid (head_two h1 (.inl h2))
   go_enter Tryz.func62, Tryz.ntmps62
   go_wp2
   go_ret
   exact ⟨ret_i hr.out.symm, by (repeat' (first|assumption|exact Below.refl _ _|apply Below.next_alloc|apply Below.drew|(apply Below.next;rotate_left;assumption)))⟩
  ·by_cases h3 : 1000 < r.interval
   ·have hr := Lib.hid (head_two h1 (.inr (.inl h3)))
    go_enter Tryz.func62, Tryz.ntmps62
    go_wp2
    go_ret
    exact ⟨ret_i hr.out.symm, by (repeat' (first|assumption|exact Below.refl _ _|apply Below.next_alloc|apply Below.drew|(apply Below.next;rotate_left;assumption)))⟩
   ·by_cases h4 : r.count < 0
    ·have hr := Lib.hid (head_two h1 (.inr (.inr (.inl h4))))
     go_enter Tryz.func62, Tryz.ntmps62
     go_wp2
     go_ret
     exact ⟨ret_i hr.out.symm, by (repeat' (first|assumption|exact Below.refl _ _|apply Below.next_alloc|apply Below.drew|(apply Below.next;rotate_left;assumption)))⟩
    ·by_cases h5 : 1000 < r.count
     ·have hr := Lib.hid (head_two h1 (.inr (.inr (.inr (.inl h5)))))
      go_enter Tryz.func62, Tryz.ntmps62
      go_wp2
      go_ret
      exact ⟨ret_i hr.out.symm, by (repeat' (first|assumption|exact Below.refl _ _|apply Below.next_alloc|apply Below.drew|(apply Below.next;rotate_left;assumption)))⟩
     ·by_cases h6 : r.wkst < 0 ∨ 6 < r.wkst
      ·have hr := Lib.hid (head_two h1 (.inr (.inr (.inr (.inr h6)))))
       have F := Lib.hid (wdn_bad h6)
       clear h6
       go_enter Tryz.func62, Tryz.ntmps62
       go_wp2_with (first | (go_at_call 101; refine (F.out _).mono ?_; rintro e w' ⟨⟨t, rfl, ht⟩, rfl⟩))
       go_ret
       exact ⟨ret_i hr.out.symm, by (repeat' (first|assumption|exact Below.refl _ _|apply Below.next_alloc|apply Below.drew|(apply Below.next;rotate_left;assumption)))⟩
      ·have hr := Lib.hid (head_rest h1 (by omega))
       have F := Lib.hid (wdn_good h6)
       clear h6
       by_cases h7 : r.uk = 0
       ·rw [h7] at c3
        by_cases h8 : r.us = 0
        ·rw [h8] at c4
         have hr := Lib.hid (hr.out.trans (if_pos ⟨h7, h8⟩))
         clear h7 h8 hu
         go_enter Tryz.func62, Tryz.ntmps62
         go_wp2_with (first | (go_at_call 101; refine (F.out _).mono ?_; rintro e w' ⟨⟨t, rfl, ht⟩, rfl⟩))
         go_ret
         exact ⟨ret_i hr.out.symm, by (repeat' (first|assumption|exact Below.refl _ _|apply Below.next_alloc|apply Below.drew|(apply Below.next;rotate_left;assumption)))⟩
        ·have hr := Lib.hid (hr.out.trans ((if_neg (fun h => h8 h.2)).trans (if_pos h7)))
         clear h7 hu
         go_enter Tryz.func62, Tryz.ntmps62
         go_wp2_with (first | (go_at_call 101; refine (F.out _).mono ?_; rintro e w' ⟨⟨t, rfl, ht⟩, rfl⟩))
         go_ret
         exact ⟨ret_i hr.out.symm, by (repeat' (first|assumption|exact Below.refl _ _|apply Below.next_alloc|apply Below.drew|(apply Below.next;rotate_left;assumption)))⟩
       ·have hq : (r.uk == 0) = false := by simp [h7]
        have hr := Lib.hid (hr.out.trans ((if_neg (fun h => h7 h.1)).trans (if_neg h7)))
        have G := fun w => Ma.check_any r.uk r.us hu w
        unfold Ma.val at G
        by_cases h9 : Mo.chk r.uk r.us = 0
        ·rw [h9] at G
         have GH := Lib.hid G
         have hr := Lib.hid (hr.out.trans (if_neg (by omega)))
         clear h9 G hu
         by_cases h10 : 0 < r.count
         ·have hr := Lib.hid (hr.out.trans (if_pos h10))
          go_enter Tryz.func62, Tryz.ntmps62
          go_wp2_with (first | (go_at_call 101; refine (F.out _).mono ?_; rintro e w' ⟨⟨t, rfl, ht⟩, rfl⟩) | (go_at_call 57; refine (GH.out _).mono ?_; rintro e w1 ⟨rfl, hB⟩; have c2 := (hB.cell (p := ⟨b, 2, none⟩) hb).trans c2))
          go_ret
          exact ⟨ret_i hr.out.symm, by (repeat' (first|assumption|exact Below.refl _ _|apply Below.next_alloc|apply Below.drew|(apply Below.next;rotate_left;assumption)))⟩
         ·have hr := Lib.hid (hr.out.trans (if_neg h10))
          go_enter Tryz.func62, Tryz.ntmps62
          go_wp2_with (first | (go_at_call 101; refine (F.out _).mono ?_; rintro e w' ⟨⟨t, rfl, ht⟩, rfl⟩) | (go_at_call 57; refine (GH.out _).mono ?_; rintro e w1 ⟨rfl, hB⟩; have c2 := (hB.cell (p := ⟨b, 2, none⟩) hb).trans c2))
          go_ret
          exact ⟨ret_i hr.out.symm, by (repeat' (first|assumption|exact Below.refl _ _|apply Below.next_alloc|apply Below.drew|(apply Below.next;rotate_left;assumption)))⟩
        ·have hr := Lib.hid (hr.out.trans (if_pos h9))
         have hq2 : (Mo.chk r.uk r.us != 0) = true := by simp [h9]
         have GH := Lib.hid G
         clear h9 G hu
         go_enter Tryz.func62, Tryz.ntmps62
         go_wp2_with (first | (go_at_call 101; refine (F.out _).mono ?_; rintro e w' ⟨⟨t, rfl, ht⟩, rfl⟩) | (go_at_call 57; refine (GH.out _).mono ?_; rintro e w1 ⟨rfl, hB⟩; have c2 := (hB.cell (p := ⟨b, 2, none⟩) hb).trans c2))
         go_ret
         exact ⟨ret_i hr.out.symm, by (repeat' (first|assumption|exact Below.refl _ _|apply Below.next_alloc|apply Below.drew|(apply Below.next;rotate_left;assumption)))⟩
end Go.Proofs.YtkbohijlhhpfbaaGreatDoor.Ra
/- The walk through recur's fits (printed by gen_fits.py). -/
namespace Go.Proofs.YtkbohijlhhpfbaaGreatDoor.Ra
open Go.RowKit Ru Ut Cw
def sumTo (r : R) : Nat → Int
 | 0 => r.day.length
 | n + 1 => sumTo r n + if 4 ≤ n ∧ n ≠ 7 then ((lst r n).length : Int) else 0
theorem others_eq (r : R) : others r = sumTo r 12 := by simp [sumTo, others, lst]
def Short (r : R) : Prop := (∀ q, 4 ≤ q → q ≤ 12 → q ≠ 7 → (lst r q).length ≤ 1000) ∧ r.day.length ≤ 1000
theorem sumTo_bd (r : R) (h : Short r) : ∀ q, q ≤ 12 → 0 ≤ sumTo r q ∧ sumTo r q ≤ 1000 + 1000 * q
 | 0, _ => by simp only [sumTo]; have := h.2; omega
 | n + 1, hn => by
  have ih := sumTo_bd r h n (by omega)
  simp only [sumTo]
  by_cases hc : 4 ≤ n ∧ n ≠ 7
  ·rw [if_pos hc]; have := h.1 n hc.1 (by omega) hc.2; omega
  ·rw [if_neg hc]; omega
theorem Ints.slice {w : World} {v : Value} {l : List Int} (h : Ints w v l) : ∃ a c, v = .slice a l.length c := by
 rcases h with ⟨rfl, a, cap, rfl, _⟩ | ⟨_, b, o, cap, rfl, _⟩
 ·exact ⟨_, _, rfl⟩
 ·exact ⟨_, _, rfl⟩
theorem Days.slice {w : World} {v : Value} {l : List (Int × Int)} (h : Days w v l) : ∃ a c, v = .slice a l.length c := by
 rcases h with ⟨rfl, a, cap, rfl, _⟩ | ⟨_, b, o, cap, rfl, _⟩
 ·exact ⟨_, _, rfl⟩
 ·exact ⟨_, _, rfl⟩
theorem b_and {a b : Bool} {p q : Prop} (h1 : a = true ↔ p) (h2 : b = true ↔ q) : (a && b) = true ↔ p ∧ q := by rw [Bool.and_eq_true, h1, h2]
theorem b_or {a b : Bool} {p q : Prop} (h1 : a = true ↔ p) (h2 : b = true ↔ q) : (a || b) = true ↔ p ∨ q := by rw [Bool.or_eq_true, h1, h2]
theorem b_not {a : Bool} {p : Prop} (h1 : a = true ↔ p) : (!a) = true ↔ ¬ p := by rw [← h1]; cases a <;> simp
theorem b_dec {p : Prop} [Decidable p] : decide p = true ↔ p := decide_eq_true_iff
theorem fits_iff (r : R) : fits r = true ↔ ¬ (numbered r.day = true ∧ (r.freq < 5 ∨ 0 < r.weekno.length)) ∧ (¬ (0 < r.mday.length ∧ r.freq = 4) ∧ (¬ (0 < r.weekno.length ∧ ¬ r.freq = 6) ∧ (¬ (0 < r.yday.length ∧ (r.freq = 3 ∨ (r.freq = 4 ∨ r.freq = 5))) ∧ (r.setpos.length = 0 ∨ 0 < others r)))) := by
 unfold fits
 exact b_and (b_not (b_and Iff.rfl (b_or b_dec b_dec))) (b_and (b_not (b_and b_dec b_dec)) (b_and (b_not (b_and b_dec (b_not b_dec))) (b_and (b_not (b_and b_dec (b_or b_dec (b_or b_dec b_dec)))) (b_or b_dec b_dec))))
theorem fits_out {r : R} {a : Bool} (hA : numbered r.day = a) (h : (a = true ∧ (r.freq < 5 ∨ 0 < r.weekno.length)) ∨ (0 < r.mday.length ∧ r.freq = 4) ∨ (0 < r.weekno.length ∧ ¬ r.freq = 6) ∨ (0 < r.yday.length ∧ (r.freq = 3 ∨ r.freq = 4 ∨ r.freq = 5))) : fits r = false := by
 rw [Bool.eq_false_iff]
 intro hh
 rw [fits_iff, hA] at hh
 obtain ⟨h1, h2, h3, h4, _⟩ := hh
 rcases h with h | h | h | h
 ·exact h1 h
 ·exact h2 h
 ·exact h3 h
 ·exact h4 h
theorem fits_in {r : R} {a : Bool} (hA : numbered r.day = a) (h0 : ¬ ((a = true ∧ (r.freq < 5 ∨ 0 < r.weekno.length)) ∨ (0 < r.mday.length ∧ r.freq = 4) ∨ (0 < r.weekno.length ∧ ¬ r.freq = 6) ∨ (0 < r.yday.length ∧ (r.freq = 3 ∨ r.freq = 4 ∨ r.freq = 5)))) : fits r = (decide (r.setpos.length = 0) || decide (0 < others r)) := by
 rw [Bool.eq_iff_iff, fits_iff, hA, Bool.or_eq_true, decide_eq_true_iff, decide_eq_true_iff]
 exact ⟨fun h => h.2.2.2.2, fun h => ⟨fun x => h0 (.inl x), fun x => h0 (.inr (.inl x)), fun x => h0 (.inr (.inr (.inl x))), fun x => h0 (.inr (.inr (.inr x))), h⟩⟩
theorem lens_bd {W : World} {r : R} {sv : Nat → Value} (_ : Lists W r sv) (h : Short r) : r.day.length ≤ 1000 := h.2
theorem fits1_any (p q : Int) (w : World) : Calls Tryz.prog 105 #[.agg #[.int .i64 p, .int .i64 q]] w fun e w' => e = .returned (.bool (!decide (p = 0))) ∧ Below w.heap.size w w' := by
 by_cases h : p = 0
 ·subst h
  go_enter Tryz.func105, Tryz.ntmps105
  go_wp2
  go_ret
  exact ⟨rfl, by (repeat' (first|assumption|exact Below.refl _ _|apply Below.next_alloc|apply Below.drew|(apply Below.next;rotate_left;assumption)))⟩
 ·have hq : (p != 0) = true := by simp [h]
  have hr := Lib.hid (show (!decide (p = 0)) = true by simp [h])
  clear h
  go_enter Tryz.func105, Tryz.ntmps105
  go_wp2
  go_ret
  exact ⟨ret_b hr.out.symm, by (repeat' (first|assumption|exact Below.refl _ _|apply Below.next_alloc|apply Below.drew|(apply Below.next;rotate_left;assumption)))⟩
set_option maxHeartbeats 8000000 in
set_option maxRecDepth 100000 in
theorem fits_any (w : World) (b : Nat) (r : R) (sv : Nat → Value) (hR : RAt w b r sv) (hL : Lists w r sv) (hn : Short r) (f0 : 0 ≤ r.freq) : Calls Tryz.prog 67 #[.pointer (some ⟨b, 0, none⟩)] w fun e w' => e = .returned (.bool (fits r)) ∧ Below w.heap.size w w' := by
 have F := containsFuncF_any (fun d => !decide (d.1 = 0)) hL.2 (by have := hn.2; omega) (fun W _ p q _ => fits1_any p q W)
 have hnum : r.day.any (fun d => !decide (d.1 = 0)) = numbered r.day := rfl
 rw [hnum] at F
 clear hnum
 obtain ⟨a7, k7, e7⟩ := hL.2.slice
 obtain ⟨a8, k8, e8⟩ := (hL.1 8 (by decide) (by decide) (by decide)).slice
 obtain ⟨a9, k9, e9⟩ := (hL.1 9 (by decide) (by decide) (by decide)).slice
 obtain ⟨a10, k10, e10⟩ := (hL.1 10 (by decide) (by decide) (by decide)).slice
 obtain ⟨a12, k12, e12⟩ := (hL.1 12 (by decide) (by decide) (by decide)).slice
 rw [e7] at F
 have x8 := (hR.2.2.2.2.2.2.2 7 (by decide) (by decide)).trans (congrArg some e7)
 have E7 := Lib.hid e7
 have E8 := Lib.hid (show sv 8 = .slice a8 r.mday.length k8 from e8)
 have E9 := Lib.hid (show sv 9 = .slice a9 r.yday.length k9 from e9)
 have E10 := Lib.hid (show sv 10 = .slice a10 r.weekno.length k10 from e10)
 have E12 := Lib.hid (show sv 12 = .slice a12 r.setpos.length k12 from e12)
 have HR := Lib.hid hR
 have HL := Lib.hid hL
 have Hn := Lib.hid hn
 clear e7 e8 e9 e10 e12 hR hL hn
 cases hA : numbered r.day
 all_goals
  rw [hA] at F
  have FC := Lib.hid F
  clear F
  go_enter Tryz.func67, Tryz.ntmps67
  go_wp2_with (first
   | (go_at_call 104; refine FC.out.mono ?_; rintro e w1 ⟨rfl, hB⟩; obtain ⟨hb, c0, -, -, -, -, -, h7⟩ := HR.out.later hB; have c8 := (h7 7 (by decide) (by decide)).trans (congrArg some E7.out); have c9 := (h7 8 (by decide) (by decide)).trans (congrArg some E8.out); have c10 := (h7 9 (by decide) (by decide)).trans (congrArg some E9.out); have c11 := (h7 10 (by decide) (by decide)).trans (congrArg some E10.out); have c13 := (h7 12 (by decide) (by decide)).trans (congrArg some E12.out); have H7 := Lib.hid h7; clear h7))
  all_goals first
   | (go_ret; (try simp only [beq_iff_eq] at *); (try simp only [bne_iff_ne] at *); (try simp only [beq_eq_false_iff_ne] at *); (try simp only [bne_eq_false_iff_eq] at *); first | exact ⟨ret_b (fits_out hA (.inr (by omega))).symm, hB⟩ | exact ⟨ret_b (fits_out hA (.inl ⟨rfl, by omega⟩)).symm, hB⟩ | exact ⟨ret_b (by rw [fits_in hA (by rintro (⟨hx, hy⟩ | hx); (first | omega | cases hx); omega), decide_eq_true (by omega)]; rfl), hB⟩)
   | skip
  all_goals
   have hr := Lib.hid (show fits r = decide (0 < sumTo r 12) by (try simp only [beq_iff_eq] at *); (try simp only [bne_iff_ne] at *); (try simp only [beq_eq_false_iff_ne] at *); (try simp only [bne_eq_false_iff_eq] at *); rw [fits_in hA (by rintro (⟨hx, hy⟩ | hx); (first | omega | cases hx); omega), decide_eq_false (by omega), others_eq]; rfl)
   clear c8 c9 c10 c11 c13
   (try (rename ((r.freq == 3) = false ∧ (r.freq == 4) = false) ∧ (r.freq == 5) = false => hh; clear hh)); (try (rename (r.freq == 4) = false ∧ (r.freq == 5) = false => hh; clear hh)); (try (rename (r.freq == 3) = false ∧ (r.freq == 4) = false => hh; clear hh)); (try (rename (r.freq == 5) = false => hh; clear hh)); (try (rename (r.freq == 3) = false => hh; clear hh)); (try (rename ¬ r.freq = 5 => hh; clear hh)); (try (rename ¬ r.freq = 6 => hh; clear hh)); (try (rename r.freq = 6 => hh; clear hh)); (try (rename 0 < r.mday.length => hh; clear hh)); (try (rename ¬ 0 < r.mday.length => hh; clear hh)); (try (rename 0 < r.weekno.length => hh; clear hh)); (try (rename ¬ 0 < r.weekno.length => hh; clear hh)); (try (rename 0 < r.yday.length => hh; clear hh)); (try (rename ¬ 0 < r.yday.length => hh; clear hh)); (try (rename ¬ r.freq = 4 => hh; clear hh)); (try (rename ¬ r.freq = 3 => hh; clear hh)); (try (rename r.freq = 4 => hh; clear hh)); (try (rename r.freq = 3 => hh; clear hh)); (try (rename (r.freq == 4) = false ∧ (r.freq != 6) = false => hh; clear hh)); (try (rename (r.freq == 4) = false => hh; clear hh)); (try (rename (r.freq == 3) = false ∧ (r.freq == 5) = false => hh; clear hh)); (try (rename ((r.setpos.length : Int) == 0) = false => hh; clear hh)); (try (rename ¬ r.freq < 5 => hh; clear hh)); (try (rename 5 ≤ r.freq => hh; clear hh)); (try (rename (r.freq != 6) = false => hh; clear hh)); (try (rename r.mday = [] => hh; clear hh)); (try (rename r.weekno = [] => hh; clear hh)); (try (rename r.yday = [] => hh; clear hh))
   have hlen := lens_bd HL.out Hn.out
   go_loopw [4, 5] (fun o p wr => ∃ q : Nat, 4 ≤ q ∧ q ≤ 12 ∧ p = .int .i64 q ∧ o = .int .i64 (sumTo r q) ∧ w1 = wr) (fun _ p _ => 12 - (intOf p).toNat)
   case atStart => exact ⟨4, by omega, by omega, rfl, by simp [sumTo], rfl⟩
   case round =>
    obtain ⟨q, q4, q12, rfl, rfl, rfl⟩ := hrel
    have hs := sumTo_bd r Hn.out q (by omega)
    have hs0 := hs.1
    have hs1 := hs.2
    clear hs
    by_cases hq : q < 12
    ·by_cases hq7 : q = 7
     ·subst hq7
      have hx := Lib.hid (show sumTo r 8 = sumTo r 7 by simp [sumTo])
      go_wp2
      go_roundw
      case rel => exact ⟨8, by omega, by omega, by go_num, by rw [hx.out], trivial⟩
      case measure => simp [intOf]
     ·have hx := Lib.hid (show sumTo r (q + 1) = sumTo r q + (lst r q).length by simp only [sumTo]; rw [if_pos ⟨q4, hq7⟩])
      obtain ⟨a, c, he⟩ := (HL.out.1 q q4 (by omega) hq7).slice
      have cq := (H7.out q q4 (by omega)).trans (congrArg some he)
      have hlq := Hn.out.1 q q4 (by omega) hq7
      have hq8 : ((q : Int) != 7) = true := by simp; omega
      have FL := Lib.hid (fun w => list_any q b q4 (by omega) hq7 w)
      clear he
      go_wp2_with (first | (go_at_call 65; refine (FL.out _).mono ?_; rintro e w' ⟨rfl, rfl⟩))
      go_roundw
      case rel => exact ⟨q + 1, by omega, by omega, by go_num, by rw [hx.out], trivial⟩
      case measure => simp [intOf]; omega
    ·obtain rfl : q = 12 := by omega
     go_wp2
     go_ret
     exact ⟨ret_b hr.out.symm, hB⟩
end Go.Proofs.YtkbohijlhhpfbaaGreatDoor.Ra
/- The walks through errandref20's Has and errandref21's first, numbered, list. -/
namespace Go.Proofs.YtkbohijlhhpfbaaGreatDoor.Ra
open Go.RowKit Ru Ut Cw
theorem rHas_any {w : World} {v : Value} {l : List Int} (x : Int) (hl : Ints w v l) (hn : l.length ≤ 1000000) : Calls Tryz.prog 44 #[v, .int .i64 x] w fun e w' => e = .returned (.bool (decide (x ∈ l))) ∧ w = w' := by
 rcases hl with ⟨rfl, a, cap, rfl, ha⟩ | ⟨h0, b, o, cap, rfl, hlt, hcap, hcell⟩
 ·go_enter Tryz.func44, Tryz.ntmps44
  go_wp2
  refine wp_loop_rounds 1 ?_
  rw [rounds_succ]
  go_wp2
  go_ret
  exact ⟨rfl, rfl⟩
 ·have HC := Lib.hid hcell
  clear hcell
  go_enter Tryz.func44, Tryz.ntmps44
  go_wp2
  go_loopw [5] (fun i wr => ∃ k : Nat, k ≤ l.length ∧ i = .int .i64 k ∧ Hid (x ∉ l.take k) ∧ w = wr) (fun i _ => l.length - (intOf i).toNat)
  case atStart => exact ⟨0, by omega, rfl, Lib.hid (by simp), rfl⟩
  case round =>
   obtain ⟨k, k1, rfl, hx, rfl⟩ := hrel
   by_cases hk : k < l.length
   ·have c1 := HC.out k hk
    have i2 : (k : Int) < (l.length : Int) := by omega
    have i3 : (0 : Int) ≤ (k : Int) := by omega
    by_cases he : x = l[k]
    ·have hq : (l[k] == x) = true := by simp [he]
     have hm : x ∈ l := by rw [he]; exact List.getElem_mem hk
     have hr := Lib.hid (decide_eq_true hm)
     clear he hm
     go_wp2
     go_ret
     exact ⟨ret_b hr.out.symm, rfl⟩
    ·have hq : (l[k] == x) = false := by simp [Ne.symm he]
     have hx2 := Lib.hid (show x ∉ l.take (k + 1) by
      rw [List.take_succ_eq_append_getElem hk, List.mem_append]
      rintro (h | h)
      ·exact hx.out h
      ·exact he (List.mem_singleton.1 h))
     clear he hx
     go_wp2
     go_roundw
     case rel => exact ⟨k + 1, by omega, by go_num, hx2, trivial⟩
     case measure => simp [intOf]; omega
   ·have hm := Lib.hid (decide_eq_false (show x ∉ l by have := hx.out; rwa [List.take_of_length_le (by omega)] at this))
    go_wp2
    go_ret
    exact ⟨ret_b hm.out.symm, rfl⟩
theorem firstNZ_pre {l : List Int} {k : Nat} (h : ∀ x ∈ l.take k, x = 0) : firstNZ l = firstNZ (l.drop k) := by
 induction l generalizing k with
 | nil => simp
 | cons x l ih =>
  cases k with
  | zero => simp
  | succ k =>
   have h0 : x = 0 := h x (by simp)
   simp only [List.drop_succ_cons, firstNZ, if_pos h0]
   exact ih fun y hy => h y (by simp [hy])
theorem firstNZ_at {l : List Int} {k : Nat} (hk : k < l.length) (h : ∀ x ∈ l.take k, x = 0) (hx : ¬ l[k] = 0) : firstNZ l = l[k] := by
 rw [firstNZ_pre h, List.drop_eq_getElem_cons hk]
 simp [firstNZ, hx]
theorem firstNZ_none {l : List Int} {k : Nat} (hk : l.length ≤ k) (h : ∀ x ∈ l.take k, x = 0) : firstNZ l = 0 := by
 rw [firstNZ_pre h, List.drop_of_length_le hk]; rfl
theorem first_any {w : World} {v : Value} {l : List Int} (hl : Ints w v l) (hn : l.length ≤ 1000000) : Calls Tryz.prog 72 #[v] w fun e w' => e = .returned (.int .i64 (firstNZ l)) ∧ w = w' := by
 rcases hl with ⟨rfl, a, cap, rfl, ha⟩ | ⟨h0, b, o, cap, rfl, hlt, hcap, hcell⟩
 ·go_enter Tryz.func72, Tryz.ntmps72
  go_wp2
  refine wp_loop_rounds 1 ?_
  rw [rounds_succ]
  go_wp2
  go_ret
  exact ⟨rfl, rfl⟩
 ·have HC := Lib.hid hcell
  clear hcell
  go_enter Tryz.func72, Tryz.ntmps72
  go_wp2
  go_loopw [3] (fun i wr => ∃ k : Nat, k ≤ l.length ∧ i = .int .i64 k ∧ Hid (∀ x ∈ l.take k, x = 0) ∧ w = wr) (fun i _ => l.length - (intOf i).toNat)
  case atStart => exact ⟨0, by omega, rfl, Lib.hid (by simp), rfl⟩
  case round =>
   obtain ⟨k, k1, rfl, hx, rfl⟩ := hrel
   by_cases hk : k < l.length
   ·have c1 := HC.out k hk
    have i2 : (k : Int) < (l.length : Int) := by omega
    have i3 : (0 : Int) ≤ (k : Int) := by omega
    by_cases he : l[k] = 0
    ·have hq : (l[k] != 0) = false := by simp [he]
     have hx2 := Lib.hid (show ∀ x ∈ l.take (k + 1), x = 0 by
      intro x hm
      rw [List.take_succ_eq_append_getElem hk, List.mem_append] at hm
      rcases hm with h | h
      ·exact hx.out x h
      ·rw [List.mem_singleton.1 h, he])
     clear he hx
     go_wp2
     go_roundw
     case rel => exact ⟨k + 1, by omega, by go_num, hx2, trivial⟩
     case measure => simp [intOf]; omega
    ·have hq : (l[k] != 0) = true := by simp [he]
     have hr := Lib.hid (firstNZ_at hk hx.out he)
     clear he
     go_wp2
     go_ret
     exact ⟨ret_i hr.out.symm, rfl⟩
   ·have hr := Lib.hid (firstNZ_none (by omega) hx.out)
    go_wp2
    go_ret
    exact ⟨ret_i hr.out.symm, rfl⟩
theorem numbered_take {l : List (Int × Int)} {k : Nat} (hk : k < l.length) (h : numbered (l.take k) = false) (h0 : l[k].1 = 0) : numbered (l.take (k + 1)) = false := by
 unfold numbered at *
 rw [any_take hk, h, decide_eq_true h0]; rfl
theorem numbered_any {w : World} {v : Value} {l : List (Int × Int)} (hl : Days w v l) (hn : l.length ≤ 1000000) : Calls Tryz.prog 75 #[v] w fun e w' => e = .returned (.bool (numbered l)) ∧ w = w' := by
 rcases hl with ⟨rfl, a, cap, rfl, ha⟩ | ⟨h0, b, o, cap, rfl, hlt, hcap, hcell⟩
 ·go_enter Tryz.func75, Tryz.ntmps75
  go_wp2
  refine wp_loop_rounds 1 ?_
  rw [rounds_succ]
  go_wp2
  go_ret
  exact ⟨rfl, rfl⟩
 ·have HC := Lib.hid hcell
  clear hcell
  go_enter Tryz.func75, Tryz.ntmps75
  go_wp2
  go_loopw [3] (fun i wr => ∃ k : Nat, k ≤ l.length ∧ i = .int .i64 k ∧ Hid (numbered (l.take k) = false) ∧ w = wr) (fun i _ => l.length - (intOf i).toNat)
  case atStart => exact ⟨0, by omega, rfl, Lib.hid (by simp [numbered]), rfl⟩
  case round =>
   obtain ⟨k, k1, rfl, hx, rfl⟩ := hrel
   by_cases hk : k < l.length
   ·obtain ⟨c1, c2⟩ := HC.out k hk
    have i2 : (k : Int) < (l.length : Int) := by omega
    have i3 : (0 : Int) ≤ (k : Int) := by omega
    by_cases he : l[k].1 = 0
    ·have hq : (l[k].1 != 0) = false := by simp [he]
     have hx2 := Lib.hid (numbered_take hk hx.out he)
     clear he hx
     go_wp2
     go_roundw
     case rel => exact ⟨k + 1, by omega, by go_num, hx2, trivial⟩
     case measure => simp [intOf]; omega
    ·have hq : (l[k].1 != 0) = true := by simp [he]
     have hr := Lib.hid (show numbered l = true by unfold numbered; exact any_of hk (by rw [decide_eq_false he]; rfl))
     clear he
     go_wp2
     go_ret
     exact ⟨ret_b hr.out.symm, rfl⟩
   ·have hr := Lib.hid (show numbered l = false by have := hx.out; rwa [List.take_of_length_le (by omega)] at this)
    go_wp2
    go_ret
    exact ⟨ret_b hr.out.symm, rfl⟩
end Go.Proofs.YtkbohijlhhpfbaaGreatDoor.Ra
/- The walk through errandref21's list. -/
namespace Go.Proofs.YtkbohijlhhpfbaaGreatDoor.Ra
open Go.RowKit Ru Ut Cw
theorem bad_yes {a b n : Int} {s : Bool} (h : bad a b s n = true) (h0 : 0 ≤ a) (h1 : a ≤ b) : (n < a ∧ s = false) ∨ (¬ n < a ∧ b < n ∧ s = false) ∨ (n < a ∧ s = true ∧ n < -b) ∨ (n < a ∧ s = true ∧ ¬ n < -b ∧ -a < n) ∨ (¬ n < a ∧ b < n ∧ s = true ∧ ¬ n < -b ∧ -a < n) := by
 have hb := absI_bd n
 unfold bad at h
 rw [b_or b_dec (b_or b_dec (b_or b_dec (b_and b_dec (b_not Iff.rfl))))] at h
 cases s <;> simp at h ⊢ <;> omega
theorem bad_no {a b n : Int} {s : Bool} (h : bad a b s n = false) : (¬ n < a ∧ ¬ b < n) ∨ (n < a ∧ s = true ∧ ¬ n < -b ∧ ¬ -a < n) := by
 have hb := absI_bd n
 rw [← Bool.not_eq_true] at h
 unfold bad at h
 rw [b_or b_dec (b_or b_dec (b_or b_dec (b_and b_dec (b_not Iff.rfl))))] at h
 cases s <;> simp at h ⊢ <;> omega
set_option maxHeartbeats 4000000 in
theorem rlist_any {w : World} {v : Value} {l : List Int} (hl : Ints w v l) (hn : l.length ≤ 1000) (a b : Int) (s : Bool) (a0 : 0 ≤ a) (ab : a ≤ b) (b1 : b ≤ 1000) :
  Calls Tryz.prog 73 #[v, .int .i64 a, .int .i64 b, .bool s] w fun e w' => e = .returned (.int .i64 (wrong (bad a b s) l)) ∧ Below w.heap.size w w' := by
 have C := fun (wr : World) (v' : Value) (l' : List Int) (x : Int) (h : Ints wr v' l') (hn : l'.length ≤ 1000000) => rHas_any x h hn
 rcases hl with ⟨rfl, a', cap, rfl, ha⟩ | ⟨h0, blk, o, cap, rfl, hlt, hcap, hcell⟩
 ·go_enter Tryz.func73, Tryz.ntmps73
  go_wp2
  go_rounds 1
  go_wp2
  go_rounds 1
  go_wp2
  go_ret
  exact ⟨rfl, by (repeat' (first|assumption|exact Below.refl _ _|apply Below.next_alloc|apply Below.drew|(apply Below.next;rotate_left;assumption)))⟩
 ·have HC := Lib.hid hcell
  clear hcell
  by_cases h12 : 12 < l.length
  ·have hr := Lib.hid (show wrong (bad a b s) l = 20 by unfold wrong; rw [if_pos h12])
   have i12 : (12 : Int) < l.length := by omega
   clear h12
   go_enter Tryz.func73, Tryz.ntmps73
   go_wp2
   go_ret
   exact ⟨ret_i hr.out.symm, by (repeat' (first|assumption|exact Below.refl _ _|apply Below.next_alloc|apply Below.drew|(apply Below.next;rotate_left;assumption)))⟩
  ·have hr := Lib.hid (show wrong (bad a b s) l = if l.any (bad a b s) = true then 8 else if l.Nodup then 0 else 19 by unfold wrong; rw [if_neg h12])
   go_enter Tryz.func73, Tryz.ntmps73
   go_wp2
   go_loopw [9] (fun i wr => ∃ k : Nat, k ≤ l.length ∧ i = .int .i64 k ∧ Hid ((l.take k).any (bad a b s) = false) ∧ w = wr) (fun i _ => l.length - (intOf i).toNat)
   case atStart => exact ⟨0, by omega, rfl, Lib.hid (by simp), rfl⟩
   case round =>
    obtain ⟨k, k1, rfl, hx, rfl⟩ := hrel
    by_cases hk : k < l.length
    ·have c1 := HC.out k hk
     have i2 : (k : Int) < (l.length : Int) := by omega
     have i3 : (0 : Int) ≤ (k : Int) := by omega
     obtain ⟨n, hn'⟩ : ∃ n, l[k] = n := ⟨_, rfl⟩
     rw [hn'] at c1
     have hany := Lib.hid (show bad a b s n = true → l.any (bad a b s) = true from fun h => any_of hk (by rw [hn']; exact h))
     have hnext := Lib.hid (show bad a b s n = false → (l.take (k + 1)).any (bad a b s) = false from fun h => by rw [any_take hk, hx.out, hn', h]; rfl)
     clear hn' hx
     cases hbd : bad a b s n
     ·have hx2 := Lib.hid (hnext.out hbd)
      clear hnext hany
      rcases bad_no hbd with ⟨g1, g2⟩ | ⟨g1, rfl, g3, g4⟩
      all_goals
       clear hbd
       go_wp2
       go_roundw
       case rel => exact ⟨k + 1, by omega, by go_num, hx2, trivial⟩
       case measure => simp [intOf]; omega
     ·have hr8 := Lib.hid (hr.out.trans (if_pos (hany.out hbd)))
      clear hnext hany hr
      rcases bad_yes hbd a0 ab with ⟨g1, rfl⟩ | ⟨g1, g2, rfl⟩ | ⟨g1, rfl, g3⟩ | ⟨g1, rfl, g3, g4⟩ | ⟨g1, g2, rfl, g3, g4⟩
      all_goals
       clear hbd
       go_wp2
       go_ret
       exact ⟨ret_i hr8.out.symm, by (repeat' (first|assumption|exact Below.refl _ _|apply Below.next_alloc|apply Below.drew|(apply Below.next;rotate_left;assumption)))⟩
    ·have hany := Lib.hid (show l.any (bad a b s) = false by have := hx.out; rwa [List.take_of_length_le (by omega)] at this)
     have hr2 := Lib.hid (hr.out.trans (if_neg (by rw [hany.out]; decide)))
     clear hx hany hr
     go_wp2
     go_loopw [10] (fun i wr => ∃ k : Nat, k ≤ l.length ∧ i = .int .i64 k ∧ Hid ((l.take k).Nodup) ∧ Hid (Below w.heap.size w wr)) (fun i _ => l.length - (intOf i).toNat)
     case atStart => exact ⟨0, by omega, rfl, Lib.hid (by simp), Lib.hid (Below.refl _ _)⟩
     case round =>
      obtain ⟨k, k1, rfl, hx, hB⟩ := hrel
      by_cases hk : k < l.length
      ·have c1 := (hB.out.cell (p := ⟨blk, o + k, none⟩) hlt).trans (HC.out k hk)
       have i2 : (k : Int) < (l.length : Int) := by omega
       have i3 : (0 : Int) ≤ (k : Int) := by omega
       have i4 : (k : Int) ≤ (cap : Int) := by omega
       have CC := Lib.hid (fun (W : World) (h : Below w.heap.size w W) x => C W _ (l.take k) x (ints_take hlt hcap HC.out (by omega) h) (by rw [List.length_take]; omega))
       obtain ⟨n, hn'⟩ : ∃ n, l[k] = n := ⟨_, rfl⟩
       rw [hn'] at c1
       have hnd := Lib.hid ((take_nodup hk hx.out).symm)
       rw [hn'] at hnd
       by_cases hm : n ∈ l.take k
       ·have hbad := Lib.hid (show ¬ l.Nodup from fun h => hnd.out.2 (nodup_take (k + 1) h) hm)
        have d1 := decide_eq_true hm
        have hr3 := Lib.hid (hr2.out.trans (if_neg hbad.out))
        have CN := Lib.hid (show ∀ W, Below w.heap.size w W → Calls Tryz.prog 44 #[.slice (some ⟨blk, o, none⟩) k cap, .int .i64 n] W fun e w' => e = .returned (.bool true) ∧ W = w' from fun W h => by have := CC.out W h n; rwa [d1] at this)
        clear hn' hm d1
        go_wp2
        go_quiet ((first | (go_at_call 44; exact Base.qsame (CN.out _ (Base.below_drewN hB.out _)))))
        go_wp2
        go_ret
        exact ⟨ret_i hr3.out.symm, Base.below_drewN hB.out _⟩
       ·have hx2 := Lib.hid (hnd.out.1 hm)
        have d1 := decide_eq_false hm
        have CN := Lib.hid (show ∀ W, Below w.heap.size w W → Calls Tryz.prog 44 #[.slice (some ⟨blk, o, none⟩) k cap, .int .i64 n] W fun e w' => e = .returned (.bool false) ∧ W = w' from fun W h => by have := CC.out W h n; rwa [d1] at this)
        clear hn' hm d1
        go_wp2
        go_quiet ((first | (go_at_call 44; exact Base.qsame (CN.out _ (Base.below_drewN hB.out _)))))
        go_wp2
        go_roundw
        case rel => exact ⟨k + 1, by omega, by go_num, hx2, Lib.hid (Base.below_drewN hB.out _)⟩
        case measure => simp [intOf]; omega
      ·have hr3 := Lib.hid (hr2.out.trans (if_pos (show l.Nodup by have := hx.out; rwa [List.take_of_length_le (by omega)] at this)))
       go_wp2
       go_ret
       exact ⟨ret_i hr3.out.symm, hB.out⟩
end Go.Proofs.YtkbohijlhhpfbaaGreatDoor.Ra
/- The walks through errandref21's days and until. -/
namespace Go.Proofs.YtkbohijlhhpfbaaGreatDoor.Ra
open Go.RowKit Ru Ut Cw
theorem eqDr (a b c d : Int) (W : World) : (Op.equalIn 10000 112 (.agg #[.int .i64 a, .int .i64 b]) (.agg #[.int .i64 c, .int .i64 d])).run Tryz.prog W = .ok (decide (a = c) && decide (b = d)) W := by
 rw [run_equalIn_struct W 9999 _ _ _ (by kernel_rfl) (by kernel_rfl)]
 by_cases h1 : a = c <;> by_cases h2 : b = d <;> simp [go_sem, Tryz.underlying112, Tryz.underlying3, h1, h2]
theorem eqDr_no {a b c d : Int} (h : ¬ (a, b) = (c, d)) (W : World) : (Op.equalIn 10000 112 (.agg #[.int .i64 a, .int .i64 b]) (.agg #[.int .i64 c, .int .i64 d])).run Tryz.prog W = .ok false W := by
 rw [eqDr]
 by_cases h1 : a = c
 ·have h2 : ¬ b = d := fun h2 => h (by rw [h1, h2])
  simp [h2]
 ·simp [h1]
theorem eqDr_yes (a b : Int) (W : World) : (Op.equalIn 10000 112 (.agg #[.int .i64 a, .int .i64 b]) (.agg #[.int .i64 a, .int .i64 b])).run Tryz.prog W = .ok true W := by rw [eqDr]; simp
set_option maxHeartbeats 4000000 in
theorem rdays_any {w : World} {v : Value} {l : List (Int × Int)} (hl : Days w v l) (hn : l.length ≤ 1000) : Calls Tryz.prog 74 #[v] w fun e w' => e = .returned (.int .i64 (wrong badDay l)) ∧ Below w.heap.size w w' := by
 rcases hl with ⟨rfl, a', cap, rfl, ha⟩ | ⟨h0, blk, o, cap, rfl, hlt, hcap, hcell⟩
 ·go_enter Tryz.func74, Tryz.ntmps74
  go_wp2
  go_rounds 1
  go_wp2
  go_rounds 1
  go_wp2
  go_ret
  exact ⟨rfl, by (repeat' (first|assumption|exact Below.refl _ _|apply Below.next_alloc|apply Below.drew|(apply Below.next;rotate_left;assumption)))⟩
 ·have HC := Lib.hid hcell
  clear hcell
  by_cases h12 : 12 < l.length
  ·have hr := Lib.hid (show wrong badDay l = 20 by unfold wrong; rw [if_pos h12])
   have i12 : (12 : Int) < l.length := by omega
   clear h12
   go_enter Tryz.func74, Tryz.ntmps74
   go_wp2
   go_ret
   exact ⟨ret_i hr.out.symm, by (repeat' (first|assumption|exact Below.refl _ _|apply Below.next_alloc|apply Below.drew|(apply Below.next;rotate_left;assumption)))⟩
  ·have hr := Lib.hid (show wrong badDay l = if l.any badDay = true then 8 else if l.Nodup then 0 else 19 by unfold wrong; rw [if_neg h12])
   go_enter Tryz.func74, Tryz.ntmps74
   go_wp2
   go_loopw [3] (fun i wr => ∃ k : Nat, k ≤ l.length ∧ i = .int .i64 k ∧ Hid ((l.take k).any badDay = false) ∧ w = wr) (fun i _ => l.length - (intOf i).toNat)
   case atStart => exact ⟨0, by omega, rfl, Lib.hid (by simp), rfl⟩
   case round =>
    obtain ⟨k, k1, rfl, hx, rfl⟩ := hrel
    by_cases hk : k < l.length
    ·obtain ⟨c1, c2⟩ := HC.out k hk
     have i2 : (k : Int) < (l.length : Int) := by omega
     have i3 : (0 : Int) ≤ (k : Int) := by omega
     obtain ⟨n, hn'⟩ : ∃ n, l[k] = n := ⟨_, rfl⟩
     rw [hn'] at c1 c2
     have hany := Lib.hid (show badDay n = true → l.any badDay = true from fun h => any_of hk (by rw [hn']; exact h))
     have hnext := Lib.hid (show badDay n = false → (l.take (k + 1)).any badDay = false from fun h => by rw [any_take hk, hx.out, hn', h]; rfl)
     clear hn' hx
     obtain ⟨p, q⟩ := n
     simp only at c1 c2
     by_cases g0 : q < 0
     ·have hr8 := Lib.hid (hr.out.trans (if_pos (hany.out (by unfold badDay; simp; omega))))
      go_wp2
      go_ret
      exact ⟨ret_i hr8.out.symm, by (repeat' (first|assumption|exact Below.refl _ _|apply Below.next_alloc|apply Below.drew|(apply Below.next;rotate_left;assumption)))⟩
     ·by_cases g1 : 6 < q
      ·have hr8 := Lib.hid (hr.out.trans (if_pos (hany.out (by unfold badDay; simp; omega))))
       go_wp2
       go_ret
       exact ⟨ret_i hr8.out.symm, by (repeat' (first|assumption|exact Below.refl _ _|apply Below.next_alloc|apply Below.drew|(apply Below.next;rotate_left;assumption)))⟩
      ·by_cases g2 : p < -53
       ·have hr8 := Lib.hid (hr.out.trans (if_pos (hany.out (by unfold badDay; simp; omega))))
        go_wp2
        go_ret
        exact ⟨ret_i hr8.out.symm, by (repeat' (first|assumption|exact Below.refl _ _|apply Below.next_alloc|apply Below.drew|(apply Below.next;rotate_left;assumption)))⟩
       ·by_cases g3 : 53 < p
        ·have hr8 := Lib.hid (hr.out.trans (if_pos (hany.out (by unfold badDay; simp; omega))))
         go_wp2
         go_ret
         exact ⟨ret_i hr8.out.symm, by (repeat' (first|assumption|exact Below.refl _ _|apply Below.next_alloc|apply Below.drew|(apply Below.next;rotate_left;assumption)))⟩
        ·have hx2 := Lib.hid (hnext.out (by unfold badDay; simp; omega))
         go_wp2
         go_roundw
         case rel => exact ⟨k + 1, by omega, by go_num, hx2, trivial⟩
         case measure => simp [intOf]; omega
    ·have hany := Lib.hid (show l.any badDay = false by have := hx.out; rwa [List.take_of_length_le (by omega)] at this)
     have hr2 := Lib.hid (hr.out.trans (if_neg (by rw [hany.out]; decide)))
     clear hx hany hr
     go_wp2
     go_loopw [4, 5] (fun i _ wr => ∃ k : Nat, k ≤ l.length ∧ i = .int .i64 k ∧ Hid ((l.take k).Nodup) ∧ Hid (Below w.heap.size w wr)) (fun i _ _ => l.length - (intOf i).toNat)
     case atStart => exact ⟨0, by omega, rfl, Lib.hid (by simp), Lib.hid (Below.refl _ _)⟩
     case round =>
      obtain ⟨k, k1, rfl, hx, hB⟩ := hrel
      by_cases hk : k < l.length
      ·have i2 : (k : Int) < (l.length : Int) := by omega
       have i3 : (0 : Int) ≤ (k : Int) := by omega
       have HD := Lib.hid (fun (W : World) (h : Below w.heap.size w W) => days_cells hlt HC.out h k hk)
       obtain ⟨n, hn'⟩ : ∃ n, l[k] = n := ⟨_, rfl⟩
       have hnd := Lib.hid ((take_nodup hk hx.out).symm)
       rw [hn'] at hnd HD
       clear hn'
       obtain ⟨p, q⟩ := n
       simp only at HD
       obtain ⟨wo, rfl⟩ : ∃ wo : World, wo = wr := ⟨_, rfl⟩
       go_wp2
       go_loopw [5] (fun i wr => ∃ j : Nat, j ≤ k ∧ i = .int .i64 j ∧ Hid ((p, q) ∉ l.take j) ∧ Hid (Below w.heap.size w wr)) (fun i _ => k - (intOf i).toNat)
       case atStart => exact ⟨0, by omega, rfl, Lib.hid (by simp), hB⟩
       case round =>
        clear hB
        obtain ⟨j, j1, rfl, hy, hB⟩ := hrel
        by_cases hj : j < k
        ·obtain ⟨c1, c2⟩ := HD.out _ hB.out
         obtain ⟨d1, d2⟩ := days_cells hlt HC.out hB.out j (by omega)
         have j2 : (j : Int) < (k : Int) := by omega
         have j4 : (j : Int) < (l.length : Int) := by omega
         have j3 : (0 : Int) ≤ (j : Int) := by omega
         by_cases he : l[j] = (p, q)
         ·have hm := Lib.hid (show (p, q) ∈ l.take k by rw [← he]; exact List.mem_take_iff_getElem.2 ⟨j, by omega, rfl⟩)
          rw [he] at d1 d2
          have hE := eqDr_yes p q
          have hbad := Lib.hid (show ¬ l.Nodup from fun h => hnd.out.2 (nodup_take (k + 1) h) hm.out)
          have hr3 := Lib.hid (hr2.out.trans (if_neg hbad.out))
          clear he
          go_wp2
          go_quiet (fail)
          go_wp2
          go_ret
          exact ⟨ret_i hr3.out.symm, Base.below_drewN hB.out _⟩
         ·have hy2 := Lib.hid (show (p, q) ∉ l.take (j + 1) by
           rw [List.take_succ_eq_append_getElem (by omega), List.mem_append]
           rintro (h | h)
           ·exact hy.out h
           ·exact he (List.mem_singleton.1 h).symm)
          generalize l[j] = m at d1 d2 he
          obtain ⟨p', q'⟩ := m
          simp only at d1 d2
          have hE := eqDr_no he
          clear he hy
          go_wp2
          go_quiet (fail)
          go_wp2
          go_roundw
          case rel => exact ⟨j + 1, by omega, by go_num, hy2, Lib.hid (Base.below_drewN hB.out _)⟩
          case measure => simp [intOf]; omega
        ·have hx2 := Lib.hid (hnd.out.1 (by have := hy.out; rwa [show j = k by omega] at this))
         go_wp2
         go_roundw
         case rel => exact ⟨k + 1, by omega, by go_num, hx2, hB⟩
         case measure => simp [intOf]; omega
      ·have hr3 := Lib.hid (hr2.out.trans (if_pos (show l.Nodup by have := hx.out; rwa [List.take_of_length_le (by omega)] at this)))
       go_wp2
       go_ret
       exact ⟨ret_i hr3.out.symm, hB.out⟩
def untilE (r : R) : Int := if r.uk = 0 ∧ r.us = 0 then 0 else if r.uk = 0 then 2 else if Mo.chk r.uk r.us ≠ 0 then Mo.chk r.uk r.us else if 0 < r.count then 9 else 0
set_option maxHeartbeats 2000000 in
set_option maxRecDepth 100000 in
theorem until_any (w : World) (r : R) (sv : Nat → Value) (hu : 0 ≤ r.uk ∧ r.uk ≤ 255) : Calls Tryz.prog 71 #[.agg (ruleC r sv)] w fun e w' => e = .returned (.int .i64 (untilE r)) ∧ Below w.heap.size w w' := by
 unfold ruleC
 have G := fun w => Ma.rcheck_any r.uk r.us hu w
 unfold Ma.val at G
 by_cases h7 : r.uk = 0
 ·have q7 : (r.uk == 0) = true := by simp [h7]
  by_cases h8 : r.us = 0
  ·have q8 : (r.us != 0) = false := by simp [h8]
   have hr := Lib.hid (show untilE r = 0 by unfold untilE; rw [if_pos ⟨h7, h8⟩])
   clear h7 h8 G
   go_enter Tryz.func71, Tryz.ntmps71
   go_wp2
   go_ret
   exact ⟨ret_i hr.out.symm, by (repeat' (first|assumption|exact Below.refl _ _|apply Below.next_alloc|apply Below.drew|(apply Below.next;rotate_left;assumption)))⟩
  ·have q8 : (r.us != 0) = true := by simp [h8]
   have hr := Lib.hid (show untilE r = 2 by unfold untilE; rw [if_neg (fun h => h8 h.2), if_pos h7])
   clear h7 h8 G
   go_enter Tryz.func71, Tryz.ntmps71
   go_wp2
   go_ret
   exact ⟨ret_i hr.out.symm, by (repeat' (first|assumption|exact Below.refl _ _|apply Below.next_alloc|apply Below.drew|(apply Below.next;rotate_left;assumption)))⟩
 ·have q7 : (r.uk == 0) = false := by simp [h7]
  by_cases h9 : Mo.chk r.uk r.us = 0
  ·rw [h9] at G
   replace G := Lib.hid G
   by_cases h10 : 0 < r.count
   ·have hr := Lib.hid (show untilE r = 9 by unfold untilE; rw [if_neg (fun h => h7 h.1), if_neg h7, if_neg (by omega), if_pos h10])
    clear h7 h9
    go_enter Tryz.func71, Tryz.ntmps71
    go_wp2_with (first | (go_at_call 59; (with_reducible refine (G.out _).mono ?_); rintro e w1 ⟨rfl, hB⟩; have c2 := (hB.cell (p := ⟨w.heap.size, 2, none⟩) (by simp)).trans (World.cell?_alloc_new w _ _ 2)))
    go_ret
    exact ⟨ret_i hr.out.symm, Below.next_allocs' hB⟩
   ·have hr := Lib.hid (show untilE r = 0 by unfold untilE; rw [if_neg (fun h => h7 h.1), if_neg h7, if_neg (by omega), if_neg h10])
    clear h7 h9
    go_enter Tryz.func71, Tryz.ntmps71
    go_wp2_with (first | (go_at_call 59; (with_reducible refine (G.out _).mono ?_); rintro e w1 ⟨rfl, hB⟩; have c2 := (hB.cell (p := ⟨w.heap.size, 2, none⟩) (by simp)).trans (World.cell?_alloc_new w _ _ 2)))
    go_ret
    exact ⟨ret_i hr.out.symm, Below.next_allocs' hB⟩
  ·have hr := Lib.hid (show untilE r = Mo.chk r.uk r.us by unfold untilE; rw [if_neg (fun h => h7 h.1), if_neg h7, if_pos h9])
   have q9 : (Mo.chk r.uk r.us != 0) = true := by simp [h9]
   replace G := Lib.hid G
   clear h7 h9
   go_enter Tryz.func71, Tryz.ntmps71
   go_wp2_with (first | (go_at_call 59; (with_reducible refine (G.out _).mono ?_); rintro e w1 ⟨rfl, hB⟩))
   go_ret
   exact ⟨ret_i hr.out.symm, Below.next_allocs' hB⟩
end Go.Proofs.YtkbohijlhhpfbaaGreatDoor.Ra
