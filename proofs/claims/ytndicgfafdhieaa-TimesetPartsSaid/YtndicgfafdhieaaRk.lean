/- The walks through errandref20's Has and errandref21's first, numbered, list. -/
import Derived.Test.YtndicgfafdhieaaRh
import Derived.Test.YtndicgfafdhieaaMb
namespace Go.Proofs.Ytndicgfafdhieaa.Ra
open Go.RowKit Ru Ut Cw
theorem rHas_any {w : World} {v : Value} {l : List Int} (x : Int) (hl : Ints w v l) (hn : l.length ≤ 1000000) : Calls Try.prog 37 #[v, .int .i64 x] w fun e w' => e = .returned (.bool (decide (x ∈ l))) ∧ w = w' := by
  rcases hl with ⟨rfl, a, cap, rfl, ha⟩ | ⟨h0, b, o, cap, rfl, hlt, hcap, hcell⟩
  · go_enter Try.func37, Try.ntmps37
    go_wp2
    refine wp_loop_rounds 1 ?_
    rw [rounds_succ]
    go_wp2
    go_ret
    exact ⟨rfl, rfl⟩
  · have HC := Lib.hid hcell
    clear hcell
    go_enter Try.func37, Try.ntmps37
    go_wp2
    go_loopw [5] (fun i wr => ∃ k : Nat, k ≤ l.length ∧ i = .int .i64 k ∧ Hid (x ∉ l.take k) ∧ w = wr) (fun i _ => l.length - (intOf i).toNat)
    case atStart => exact ⟨0, by omega, rfl, Lib.hid (by simp), rfl⟩
    case round =>
      obtain ⟨k, k1, rfl, hx, rfl⟩ := hrel
      by_cases hk : k < l.length
      · have c1 := HC.out k hk
        have i2 : (k : Int) < (l.length : Int) := by omega
        have i3 : (0 : Int) ≤ (k : Int) := by omega
        by_cases he : x = l[k]
        · have hq : (l[k] == x) = true := by simp [he]
          have hm : x ∈ l := by rw [he]; exact List.getElem_mem hk
          have hr := Lib.hid (decide_eq_true hm)
          clear he hm
          go_wp2
          go_ret
          exact ⟨ret_b hr.out.symm, rfl⟩
        · have hq : (l[k] == x) = false := by simp [Ne.symm he]
          have hx2 := Lib.hid (show x ∉ l.take (k + 1) by
            rw [List.take_succ_eq_append_getElem hk, List.mem_append]
            rintro (h | h)
            · exact hx.out h
            · exact he (List.mem_singleton.1 h))
          clear he hx
          go_wp2
          go_roundw
          case rel => exact ⟨k + 1, by omega, by go_num, hx2, trivial⟩
          case measure => simp [intOf]; omega
      · have hm := Lib.hid (decide_eq_false (show x ∉ l by have := hx.out; rwa [List.take_of_length_le (by omega)] at this))
        go_wp2
        go_ret
        exact ⟨ret_b hm.out.symm, rfl⟩
theorem firstNZ_pre {l : List Int} {k : Nat} (h : ∀ x ∈ l.take k, x = 0) : firstNZ l = firstNZ (l.drop k) := by
  induction l generalizing k with
  | nil => simp
  | cons x l ih =>
    cases k with
    | zero => simp
    | succ k =>
      have h0 : x = 0 := h x (by simp)
      simp only [List.drop_succ_cons, firstNZ, if_pos h0]
      exact ih fun y hy => h y (by simp [hy])
theorem firstNZ_at {l : List Int} {k : Nat} (hk : k < l.length) (h : ∀ x ∈ l.take k, x = 0) (hx : ¬ l[k] = 0) : firstNZ l = l[k] := by
  rw [firstNZ_pre h, List.drop_eq_getElem_cons hk]
  simp [firstNZ, hx]
theorem firstNZ_none {l : List Int} {k : Nat} (hk : l.length ≤ k) (h : ∀ x ∈ l.take k, x = 0) : firstNZ l = 0 := by
  rw [firstNZ_pre h, List.drop_of_length_le hk]; rfl
theorem first_any {w : World} {v : Value} {l : List Int} (hl : Ints w v l) (hn : l.length ≤ 1000000) : Calls Try.prog 27 #[v] w fun e w' => e = .returned (.int .i64 (firstNZ l)) ∧ w = w' := by
  rcases hl with ⟨rfl, a, cap, rfl, ha⟩ | ⟨h0, b, o, cap, rfl, hlt, hcap, hcell⟩
  · go_enter Try.func27, Try.ntmps27
    go_wp2
    refine wp_loop_rounds 1 ?_
    rw [rounds_succ]
    go_wp2
    go_ret
    exact ⟨rfl, rfl⟩
  · have HC := Lib.hid hcell
    clear hcell
    go_enter Try.func27, Try.ntmps27
    go_wp2
    go_loopw [3] (fun i wr => ∃ k : Nat, k ≤ l.length ∧ i = .int .i64 k ∧ Hid (∀ x ∈ l.take k, x = 0) ∧ w = wr) (fun i _ => l.length - (intOf i).toNat)
    case atStart => exact ⟨0, by omega, rfl, Lib.hid (by simp), rfl⟩
    case round =>
      obtain ⟨k, k1, rfl, hx, rfl⟩ := hrel
      by_cases hk : k < l.length
      · have c1 := HC.out k hk
        have i2 : (k : Int) < (l.length : Int) := by omega
        have i3 : (0 : Int) ≤ (k : Int) := by omega
        by_cases he : l[k] = 0
        · have hq : (l[k] != 0) = false := by simp [he]
          have hx2 := Lib.hid (show ∀ x ∈ l.take (k + 1), x = 0 by
            intro x hm
            rw [List.take_succ_eq_append_getElem hk, List.mem_append] at hm
            rcases hm with h | h
            · exact hx.out x h
            · rw [List.mem_singleton.1 h, he])
          clear he hx
          go_wp2
          go_roundw
          case rel => exact ⟨k + 1, by omega, by go_num, hx2, trivial⟩
          case measure => simp [intOf]; omega
        · have hq : (l[k] != 0) = true := by simp [he]
          have hr := Lib.hid (firstNZ_at hk hx.out he)
          clear he
          go_wp2
          go_ret
          exact ⟨ret_i hr.out.symm, rfl⟩
      · have hr := Lib.hid (firstNZ_none (by omega) hx.out)
        go_wp2
        go_ret
        exact ⟨ret_i hr.out.symm, rfl⟩
theorem numbered_take {l : List (Int × Int)} {k : Nat} (hk : k < l.length) (h : numbered (l.take k) = false) (h0 : l[k].1 = 0) : numbered (l.take (k + 1)) = false := by
  unfold numbered at *
  rw [any_take hk, h, decide_eq_true h0]; rfl
theorem numbered_any {w : World} {v : Value} {l : List (Int × Int)} (hl : Days w v l) (hn : l.length ≤ 1000000) : Calls Try.prog 30 #[v] w fun e w' => e = .returned (.bool (numbered l)) ∧ w = w' := by
  rcases hl with ⟨rfl, a, cap, rfl, ha⟩ | ⟨h0, b, o, cap, rfl, hlt, hcap, hcell⟩
  · go_enter Try.func30, Try.ntmps30
    go_wp2
    refine wp_loop_rounds 1 ?_
    rw [rounds_succ]
    go_wp2
    go_ret
    exact ⟨rfl, rfl⟩
  · have HC := Lib.hid hcell
    clear hcell
    go_enter Try.func30, Try.ntmps30
    go_wp2
    go_loopw [3] (fun i wr => ∃ k : Nat, k ≤ l.length ∧ i = .int .i64 k ∧ Hid (numbered (l.take k) = false) ∧ w = wr) (fun i _ => l.length - (intOf i).toNat)
    case atStart => exact ⟨0, by omega, rfl, Lib.hid (by simp [numbered]), rfl⟩
    case round =>
      obtain ⟨k, k1, rfl, hx, rfl⟩ := hrel
      by_cases hk : k < l.length
      · obtain ⟨c1, c2⟩ := HC.out k hk
        have i2 : (k : Int) < (l.length : Int) := by omega
        have i3 : (0 : Int) ≤ (k : Int) := by omega
        by_cases he : l[k].1 = 0
        · have hq : (l[k].1 != 0) = false := by simp [he]
          have hx2 := Lib.hid (numbered_take hk hx.out he)
          clear he hx
          go_wp2
          go_roundw
          case rel => exact ⟨k + 1, by omega, by go_num, hx2, trivial⟩
          case measure => simp [intOf]; omega
        · have hq : (l[k].1 != 0) = true := by simp [he]
          have hr := Lib.hid (show numbered l = true by unfold numbered; exact any_of hk (by rw [decide_eq_false he]; rfl))
          clear he
          go_wp2
          go_ret
          exact ⟨ret_b hr.out.symm, rfl⟩
      · have hr := Lib.hid (show numbered l = false by have := hx.out; rwa [List.take_of_length_le (by omega)] at this)
        go_wp2
        go_ret
        exact ⟨ret_b hr.out.symm, rfl⟩
end Go.Proofs.Ytndicgfafdhieaa.Ra
