import Derived.Test.YtkbohijlhhpfbaaGreatDoorRi
import Derived.Test.YtkbohijlhhpfbaaGreatDoorXa
/- The walks through dayset's small functions. -/
namespace Go.Proofs.YtkbohijlhhpfbaaGreatDoor.Da
open Go.RowKit Ru Ut Cw Ra
theorem which_any (a : Int) (h0 : 0 ≤ a) (h1 : a ≤ 1000000) (w : World) : Calls Tryz.prog 149 #[.int .i64 a] w fun e w' => e = .returned (.int .i64 (Dy.which a)) ∧ w = w' := by
  go_enter Tryz.func149, Tryz.ntmps149
  go_wp2
  go_ret
  exact ⟨rfl, rfl⟩
theorem hasB {l : List Int} {a b : Int} : Dy.has l a b = (decide (l.length = 0) || (decide (a ∈ l) || decide (b ∈ l))) := rfl
set_option maxHeartbeats 1000000 in
theorem has_any {w : World} {v : Value} {l : List Int} (a b : Int) (hl : Ints w v l) (hn : l.length ≤ 1000) : Calls Tryz.prog 150 #[v, .int .i64 a, .int .i64 b] w fun e w' => e = .returned (.bool (Dy.has l a b)) ∧ w = w' := by
  have F1 := Ra.has_any a hl (by omega)
  have F2 := Ra.has_any b hl (by omega)
  obtain ⟨p, c, rfl⟩ := hl.slice
  clear hl
  by_cases h0 : l.length = 0
  · have hr := Lib.hid (show Dy.has l a b = true by rw [hasB, decide_eq_true h0]; rfl)
    have hq : ((l.length : Int) == 0) = true := by simp [h0]
    clear F1 F2 h0
    go_enter Tryz.func150, Tryz.ntmps150
    go_wp2
    go_ret
    exact ⟨ret_b hr.out.symm, rfl⟩
  · have hq : ((l.length : Int) == 0) = false := by rw [beq_eq_false_iff_ne]; omega
    by_cases ha : a ∈ l
    · have hr := Lib.hid (show Dy.has l a b = true by rw [hasB, decide_eq_false h0, decide_eq_true ha]; rfl)
      rw [decide_eq_true ha] at F1
      have F1 := Lib.hid F1
      clear F2 ha h0
      go_enter Tryz.func150, Tryz.ntmps150
      go_wp2_with (first | (go_at_call 173; with_reducible refine F1.out.mono ?_; rintro e w' ⟨rfl, rfl⟩))
      go_ret
      exact ⟨ret_b hr.out.symm, rfl⟩
    · have hr := Lib.hid (show Dy.has l a b = decide (b ∈ l) by rw [hasB, decide_eq_false h0, decide_eq_false ha]; rfl)
      rw [decide_eq_false ha] at F1
      have G1 := Lib.hid F1
      have G2 := Lib.hid F2
      clear F1 F2 ha h0
      go_enter Tryz.func150, Tryz.ntmps150
      go_wp2_with (first | (go_at_call 173; with_reducible refine G1.out.mono ?_; rintro e w' ⟨rfl, rfl⟩; clear G1) | (go_at_call 173; with_reducible refine G2.out.mono ?_; rintro e w' ⟨rfl, rfl⟩))
      go_ret
      exact ⟨ret_b hr.out.symm, rfl⟩
end Go.Proofs.YtkbohijlhhpfbaaGreatDoor.Da

/- The walk through the closure of dayset's onDay. -/
namespace Go.Proofs.YtkbohijlhhpfbaaGreatDoor.Da
open Go.RowKit Ru Ut Cw Ra
set_option maxHeartbeats 4000000 in
theorem onDay1_any (W : World) (bf bw o cap : Nat) (p q wd n0 n1 : Int) (hf : bf < W.heap.size) (hw : bw < W.heap.size) (c3 : W.cell? ⟨bf, 3, none⟩ = some (.int .i64 wd)) (cw : W.cell? ⟨bw, 0, none⟩ = some (.slice (some ⟨bf, o, none⟩) 2 cap)) (c0 : W.cell? ⟨bf, o, none⟩ = some (.int .i64 n0)) (c1 : W.cell? ⟨bf, o + 1, none⟩ = some (.int .i64 n1)) :
    Calls Tryz.prog 176 #[.agg #[.int .i64 p, .int .i64 q], .pointer (some ⟨bf, 0, none⟩), .pointer (some ⟨bw, 0, none⟩)] W fun e w' => e = .returned (.bool (decide (q = wd) && (decide (p = 0) || (decide (p = n0) || decide (p = n1))))) ∧ Below W.heap.size W w' := by
  by_cases h1 : q = wd
  · have g1 : (q == wd) = true := by simp [h1]
    by_cases h2 : p = 0
    · have g2 : (p == 0) = true := by simp [h2]
      have hr := Lib.hid (show (decide (q = wd) && (decide (p = 0) || (decide (p = n0) || decide (p = n1)))) = true by simp [h1, h2])
      clear h1 h2
      go_enter Tryz.func176, Tryz.ntmps176
      go_wp2
      go_quiet (fail)
      go_wp2
      go_ret
      exact ⟨ret_b hr.out.symm, Base.below_drewN (by (repeat' (first | assumption | exact Below.refl _ _ | apply Below.next_alloc | apply Below.drew | (apply Below.next; rotate_left; assumption)))) _⟩
    · have g2 : (p == 0) = false := by simp [h2]
      by_cases h3 : p = n0
      · have g3 : (p == n0) = true := by simp [h3]
        have hr := Lib.hid (show (decide (q = wd) && (decide (p = 0) || (decide (p = n0) || decide (p = n1)))) = true by simp [h1, h3])
        clear h1 h2 h3
        go_enter Tryz.func176, Tryz.ntmps176
        go_wp2
        go_quiet (fail)
        go_wp2
        go_ret
        exact ⟨ret_b hr.out.symm, Base.below_drewN (by (repeat' (first | assumption | exact Below.refl _ _ | apply Below.next_alloc | apply Below.drew | (apply Below.next; rotate_left; assumption)))) _⟩
      · have g3 : (p == n0) = false := by simp [h3]
        have hr := Lib.hid (show (decide (q = wd) && (decide (p = 0) || (decide (p = n0) || decide (p = n1)))) = (p == n1) by
          by_cases h4 : p = n1 <;> simp [h1, h2, h3, h4])
        clear h1 h2 h3
        cases g4 : p == n1
        all_goals
          go_enter Tryz.func176, Tryz.ntmps176
          go_wp2
          go_quiet (fail)
          go_wp2
          go_ret
          exact ⟨ret_b (by rw [hr.out, g4]), Base.below_drewN (by (repeat' (first | assumption | exact Below.refl _ _ | apply Below.next_alloc | apply Below.drew | (apply Below.next; rotate_left; assumption)))) _⟩
  · have g1 : (q == wd) = false := by simp [h1]
    have hr := Lib.hid (show (decide (q = wd) && (decide (p = 0) || (decide (p = n0) || decide (p = n1)))) = false by simp [h1])
    clear h1
    go_enter Tryz.func176, Tryz.ntmps176
    go_wp2
    go_quiet (fail)
    go_wp2
    go_ret
    exact ⟨ret_b hr.out.symm, Base.below_drewN (by (repeat' (first | assumption | exact Below.refl _ _ | apply Below.next_alloc | apply Below.drew | (apply Below.next; rotate_left; assumption)))) _⟩
end Go.Proofs.YtkbohijlhhpfbaaGreatDoor.Da

/- The walks through slices.IndexFunc and slices.ContainsFunc over weekdays with one closure (printed by gen_func.py). -/
namespace Go.Proofs.YtkbohijlhhpfbaaGreatDoor.Ra
open Go.RowKit Ru Ut Cw
set_option maxHeartbeats 2000000 in
theorem indexFuncO_any {w : World} {v : Value} {l : List (Int × Int)} (k1 : Value) (k2 : Value) (P : Int × Int → Bool) (hl : Days w v l) (hn : l.length ≤ 1000000) (hp : ∀ W, Below w.heap.size w W → ∀ p q, (p, q) ∈ l → Calls Tryz.prog 176 #[.agg #[.int .i64 p, .int .i64 q], k1, k2] W fun e W' => e = .returned (.bool (P (p, q))) ∧ Below W.heap.size W W') :
    Calls Tryz.prog 145 #[v, .func (.func 176) #[] #[k1, k2]] w fun e w' => (∃ i : Int, e = .returned (.int .i64 i) ∧ decide (0 ≤ i) = l.any P) ∧ Below w.heap.size w w' := by
  rcases hl with ⟨rfl, a, cap, rfl, ha⟩ | ⟨h0, b, o, cap, rfl, hlt, hcap, hcell⟩
  · go_enter Tryz.func145, Tryz.ntmps145
    go_wp2
    refine wp_loop_rounds 1 ?_
    rw [rounds_succ]
    go_wp2
    go_ret
    exact ⟨⟨_, rfl, by simp⟩, by (repeat' (first | assumption | exact Below.refl _ _ | apply Below.next_alloc | apply Below.drew | (apply Below.next; rotate_left; assumption)))⟩
  · have HC := Lib.hid hcell
    have HP := Lib.hid hp
    clear hcell hp
    go_enter Tryz.func145, Tryz.ntmps145
    go_wp2
    go_loopw [8] (fun i wr => ∃ k : Nat, k ≤ l.length ∧ i = .int .i64 k ∧ Hid ((l.take k).any P = false) ∧ Below w.heap.size w wr) (fun i _ => l.length - (intOf i).toNat)
    case atStart => exact ⟨0, by omega, rfl, Lib.hid (by simp), Below.refl _ _⟩
    case round =>
      obtain ⟨k, k1, rfl, hx, hB⟩ := hrel
      by_cases hk : k < l.length
      · obtain ⟨c1, c2⟩ := days_cells hlt HC.out hB k hk
        have i2 : (k : Int) < (l.length : Int) := by omega
        have i3 : (0 : Int) ≤ (k : Int) := by omega
        obtain ⟨n, hn'⟩ : ∃ n, l[k] = n := ⟨_, rfl⟩
        have hmem : l[k] ∈ l := List.getElem_mem hk
        rw [hn'] at c1 c2 hmem
        have hany := Lib.hid (show P n = true → l.any P = true from fun h => any_of hk (by rw [hn']; exact h))
        have hnext := Lib.hid (show P n = false → (l.take (k + 1)).any P = false from fun h => by rw [any_take hk, hx.out, hn', h]; rfl)
        clear hn' hx
        obtain ⟨p, q⟩ := n
        simp only at c1 c2
        have F := Lib.hid (HP.out wr hB p q hmem)
        clear hmem
        generalize hPb : P (p, q) = t at F
        cases t
        · have hx2 := Lib.hid (hnext.out hPb)
          clear hPb
          go_wp2_with (go_at_call 176; refine F.out.mono ?_; rintro e w1 ⟨rfl, hB1⟩)
          go_roundw
          case rel => exact ⟨k + 1, by omega, by go_num, hx2, Below.next hB hB1⟩
          case measure => simp [intOf]; omega
        · have hx2 := Lib.hid (hany.out hPb)
          clear hPb
          go_wp2_with (go_at_call 176; refine F.out.mono ?_; rintro e w1 ⟨rfl, hB1⟩)
          go_ret
          exact ⟨⟨_, rfl, by rw [decide_eq_true (by omega), hx2.out]⟩, Below.next hB hB1⟩
      · have hm := Lib.hid (show l.any P = false by have := hx.out; rwa [List.take_of_length_le (by omega)] at this)
        go_wp2
        go_ret
        exact ⟨⟨_, rfl, by rw [hm.out]; rfl⟩, hB⟩
theorem containsFuncO_any {w : World} {v : Value} {l : List (Int × Int)} (k1 : Value) (k2 : Value) (P : Int × Int → Bool) (hl : Days w v l) (hn : l.length ≤ 1000000) (hp : ∀ W, Below w.heap.size w W → ∀ p q, (p, q) ∈ l → Calls Tryz.prog 176 #[.agg #[.int .i64 p, .int .i64 q], k1, k2] W fun e W' => e = .returned (.bool (P (p, q))) ∧ Below W.heap.size W W') :
    Calls Tryz.prog 104 #[v, .func (.func 176) #[] #[k1, k2]] w fun e w' => e = .returned (.bool (l.any P)) ∧ Below w.heap.size w w' := by
  have F := Lib.hid (indexFuncO_any k1 k2 P hl hn hp)
  have hv : ∃ a m c, v = .slice a m c := by
    rcases hl with ⟨_, a, cap, rfl, _⟩ | ⟨_, b, o, cap, rfl, _⟩
    · exact ⟨_, _, _, rfl⟩
    · exact ⟨_, _, _, rfl⟩
  obtain ⟨a, m, c, rfl⟩ := hv
  clear hl hp
  go_enter Tryz.func104, Tryz.ntmps104
  go_wp2_with (go_at_call 145; refine F.out.mono ?_; rintro e w1 ⟨⟨i, rfl, hi⟩, hB⟩)
  go_ret
  exact ⟨by first | rfl | exact ret_b hi, hB⟩
end Go.Proofs.YtkbohijlhhpfbaaGreatDoor.Ra

