/- The walks through slices.IndexFunc and slices.ContainsFunc over weekdays with one closure (printed by gen_func.py). -/
import Derived.Test.YtndicgfafdhieaaRe
namespace Go.Proofs.Ytndicgfafdhieaa.Ra
open Go.RowKit Ru Ut Cw
set_option maxHeartbeats 2000000 in
theorem indexFuncF_any {w : World} {v : Value} {l : List (Int × Int)}  (P : Int × Int → Bool) (hl : Days w v l) (hn : l.length ≤ 1000000) (hp : ∀ W, Below w.heap.size w W → ∀ p q, (p, q) ∈ l → Calls Try.prog 53 #[.agg #[.int .i64 p, .int .i64 q]] W fun e W' => e = .returned (.bool (P (p, q))) ∧ Below W.heap.size W W') :
    Calls Try.prog 59 #[v, .func (.func 53) #[] #[]] w fun e w' => (∃ i : Int, e = .returned (.int .i64 i) ∧ decide (0 ≤ i) = l.any P) ∧ Below w.heap.size w w' := by
  rcases hl with ⟨rfl, a, cap, rfl, ha⟩ | ⟨h0, b, o, cap, rfl, hlt, hcap, hcell⟩
  · go_enter Try.func59, Try.ntmps59
    go_wp2
    refine wp_loop_rounds 1 ?_
    rw [rounds_succ]
    go_wp2
    go_ret
    exact ⟨⟨_, rfl, by simp⟩, by (repeat' (first | assumption | exact Below.refl _ _ | apply Below.next_alloc | apply Below.drew | (apply Below.next; rotate_left; assumption)))⟩
  · have HC := Lib.hid hcell
    have HP := Lib.hid hp
    clear hcell hp
    go_enter Try.func59, Try.ntmps59
    go_wp2
    go_loopw [8] (fun i wr => ∃ k : Nat, k ≤ l.length ∧ i = .int .i64 k ∧ Hid ((l.take k).any P = false) ∧ Below w.heap.size w wr) (fun i _ => l.length - (intOf i).toNat)
    case atStart => exact ⟨0, by omega, rfl, Lib.hid (by simp), Below.refl _ _⟩
    case round =>
      obtain ⟨k, k1, rfl, hx, hB⟩ := hrel
      by_cases hk : k < l.length
      · obtain ⟨c1, c2⟩ := days_cells hlt HC.out hB k hk
        have i2 : (k : Int) < (l.length : Int) := by omega
        have i3 : (0 : Int) ≤ (k : Int) := by omega
        obtain ⟨n, hn'⟩ : ∃ n, l[k] = n := ⟨_, rfl⟩
        have hmem : l[k] ∈ l := List.getElem_mem hk
        rw [hn'] at c1 c2 hmem
        have hany := Lib.hid (show P n = true → l.any P = true from fun h => any_of hk (by rw [hn']; exact h))
        have hnext := Lib.hid (show P n = false → (l.take (k + 1)).any P = false from fun h => by rw [any_take hk, hx.out, hn', h]; rfl)
        clear hn' hx
        obtain ⟨p, q⟩ := n
        simp only at c1 c2
        have F := Lib.hid (HP.out wr hB p q hmem)
        clear hmem
        generalize hPb : P (p, q) = t at F
        cases t
        · have hx2 := Lib.hid (hnext.out hPb)
          clear hPb
          go_wp2_with (go_at_call 53; refine F.out.mono ?_; rintro e w1 ⟨rfl, hB1⟩)
          go_roundw
          case rel => exact ⟨k + 1, by omega, by go_num, hx2, Below.next hB hB1⟩
          case measure => simp [intOf]; omega
        · have hx2 := Lib.hid (hany.out hPb)
          clear hPb
          go_wp2_with (go_at_call 53; refine F.out.mono ?_; rintro e w1 ⟨rfl, hB1⟩)
          go_ret
          exact ⟨⟨_, rfl, by rw [decide_eq_true (by omega), hx2.out]⟩, Below.next hB hB1⟩
      · have hm := Lib.hid (show l.any P = false by have := hx.out; rwa [List.take_of_length_le (by omega)] at this)
        go_wp2
        go_ret
        exact ⟨⟨_, rfl, by rw [hm.out]; rfl⟩, hB⟩
theorem containsFuncF_any {w : World} {v : Value} {l : List (Int × Int)}  (P : Int × Int → Bool) (hl : Days w v l) (hn : l.length ≤ 1000000) (hp : ∀ W, Below w.heap.size w W → ∀ p q, (p, q) ∈ l → Calls Try.prog 53 #[.agg #[.int .i64 p, .int .i64 q]] W fun e W' => e = .returned (.bool (P (p, q))) ∧ Below W.heap.size W W') :
    Calls Try.prog 52 #[v, .func (.func 53) #[] #[]] w fun e w' => e = .returned (.bool (l.any P)) ∧ Below w.heap.size w w' := by
  have F := Lib.hid (indexFuncF_any  P hl hn hp)
  have hv : ∃ a m c, v = .slice a m c := by
    rcases hl with ⟨_, a, cap, rfl, _⟩ | ⟨_, b, o, cap, rfl, _⟩
    · exact ⟨_, _, _, rfl⟩
    · exact ⟨_, _, _, rfl⟩
  obtain ⟨a, m, c, rfl⟩ := hv
  clear hl hp
  go_enter Try.func52, Try.ntmps52
  go_wp2_with (go_at_call 59; refine F.out.mono ?_; rintro e w1 ⟨⟨i, rfl, hi⟩, hB⟩)
  go_ret
  exact ⟨by first | rfl | exact ret_b hi, hB⟩
end Go.Proofs.Ytndicgfafdhieaa.Ra
