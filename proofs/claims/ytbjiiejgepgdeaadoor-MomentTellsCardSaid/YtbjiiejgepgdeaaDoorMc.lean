/- The walks through errandref11's loops over texts. -/
import Derived.Test.YtbjiiejgepgdeaaDoorMb
namespace Go.Proofs.YtbjiiejgepgdeaaDoor.Ma
open Go.RowKit Mo Ut Cw
/-- a text's bytes -/
def bts (s : ByteArray) : List UInt8 := s.data.toList
theorem bts_len (s : ByteArray) : (bts s).length = s.size := by unfold bts; rw [Array.length_toList]; rfl
theorem bts_get (s : ByteArray) (j : Nat) (h : j < s.size) : (bts s)[j]'(by rw [bts_len]; exact h) = s[j] := by
  unfold bts; rw [Array.getElem_toList]; rfl
theorem bts_take (s : ByteArray) (j : Nat) (h : j < s.size) : (bts s).take (j + 1) = (bts s).take j ++ [s[j]] := by
  rw [List.take_succ_eq_append_getElem (by rw [bts_len]; exact h), bts_get s j h]
theorem bts_take_all (s : ByteArray) (j : Nat) (h : s.size ≤ j) : (bts s).take j = bts s := List.take_of_length_le (by rw [bts_len]; exact h)
theorem dig_true {c : UInt8} (h : dig c = true) : 48 ≤ (c.toNat : Int) ∧ (c.toNat : Int) ≤ 57 := by
  unfold dig at h; simp at h; omega
theorem dig_false {c : UInt8} (h : dig c = false) : (c.toNat : Int) < 48 ∨ 57 < (c.toNat : Int) := by
  unfold dig at h; simp at h; omega
theorem all_snoc (l : List UInt8) (c : UInt8) : (l ++ [c]).all dig = (l.all dig && dig c) := by simp
theorem all_false {s : ByteArray} {j : Nat} (h : j < s.size) (hd : dig s[j] = false) : (bts s).all dig = false := by
  rw [← List.take_append_drop (j + 1) (bts s), List.all_append, bts_take s j h, all_snoc, hd]; simp
set_option maxHeartbeats 1000000 in
theorem digits_any (s : ByteArray) (hn : s.size ≤ 1000000) (w : World) : Calls Tryd.prog 23 #[.string s] w fun e w' => e = .returned (.bool ((bts s).all dig)) ∧ w = w' := by
  go_enter Tryd.func23, Tryd.ntmps23
  go_wp2
  go_loopw [3] (fun i wr => ∃ j : Nat, j ≤ s.size ∧ i = .int .i64 j ∧ Hid (((bts s).take j).all dig = true) ∧ w = wr) (fun i _ => s.size - (intOf i).toNat)
  case atStart => exact ⟨0, by omega, rfl, Lib.hid rfl, rfl⟩
  case round =>
    obtain ⟨j, hj, rfl, hd, rfl⟩ := hrel
    by_cases hk : j < s.size
    · have i2 : (j : Int) < (s.size : Int) := by omega
      have i3 : (0 : Int) ≤ (j : Int) := by omega
      cases hc : dig s[j]
      · have hr := Lib.hid (all_false hk hc)
        rcases dig_false hc with hlo | hhi
        · go_wp2
          go_ret
          exact ⟨ret_b hr.out.symm, rfl⟩
        · go_wp2
          go_ret
          exact ⟨ret_b hr.out.symm, rfl⟩
      · have hb := dig_true hc
        have hr := Lib.hid (show ((bts s).take (j + 1)).all dig = true by rw [bts_take s j hk, all_snoc, hd.out, hc]; rfl)
        clear hc
        go_wp2
        go_roundw
        case rel => exact ⟨j + 1, by omega, by go_num, hr, trivial⟩
        case measure => simp [intOf]; omega
    · have hr := Lib.hid (show (bts s).all dig = true by rw [← bts_take_all s j (by omega)]; exact hd.out)
      go_wp2
      go_ret
      exact ⟨ret_b hr.out.symm, rfl⟩
theorem num_take (s : ByteArray) (j : Nat) (h : j < s.size) : num 0 ((bts s).take (j + 1)) = num 0 ((bts s).take j) * 10 + dv s[j] := by
  rw [bts_take s j h, num_snoc]
theorem num_small {l : List UInt8} (h : l.all dig = true) (hl : l.length ≤ 4) : 0 ≤ num 0 l ∧ num 0 l ≤ 9999 := by
  have := num_bd l h
  have hk : l.length = 0 ∨ l.length = 1 ∨ l.length = 2 ∨ l.length = 3 ∨ l.length = 4 := by omega
  rcases hk with hk | hk | hk | hk | hk <;> rw [hk] at this <;> simp only [Int.reducePow] at this <;> omega
theorem all_take {s : ByteArray} (j : Nat) (h : (bts s).all dig = true) : ((bts s).take j).all dig = true :=
  List.all_eq_true.2 fun x hx => List.all_eq_true.1 h x (List.mem_of_mem_take hx)
theorem all_get {s : ByteArray} {j : Nat} (h : (bts s).all dig = true) (hj : j < s.size) : dig s[j] = true := by
  rw [← bts_get s j hj]; exact List.all_eq_true.1 h _ (List.getElem_mem _)
set_option maxHeartbeats 1000000 in
theorem number_any (s : ByteArray) (hn : s.size ≤ 4) (hd : (bts s).all dig = true) (w : World) : Calls Tryd.prog 25 #[.string s] w fun e w' => e = .returned (.int .i64 (num 0 (bts s))) ∧ w = w' := by
  have HD := Lib.hid hd
  clear hd
  go_enter Tryd.func25, Tryd.ntmps25
  go_wp2
  go_loopw [3, 4] (fun n i wr => ∃ j : Nat, j ≤ s.size ∧ i = .int .i64 j ∧ n = .int .i64 (num 0 ((bts s).take j)) ∧ w = wr) (fun _ i _ => s.size - (intOf i).toNat)
  case atStart => exact ⟨0, by omega, rfl, rfl, rfl⟩
  case round =>
    obtain ⟨j, hj, rfl, rfl, rfl⟩ := hrel
    by_cases hk : j < s.size
    · have i2 : (j : Int) < (s.size : Int) := by omega
      have i3 : (0 : Int) ≤ (j : Int) := by omega
      have hb := dig_true (all_get HD.out hk)
      have hs := Lib.hid (num_take s j hk)
      have hv := num_small (all_take j HD.out) (by rw [List.length_take, bts_len]; omega)
      generalize num 0 ((bts s).take j) = n at hs hv ⊢
      go_wp2
      go_roundw
      case rel => exact ⟨j + 1, by omega, by go_num, by rw [hs.out]; unfold dv; go_num, trivial⟩
      case measure => simp [intOf]; omega
    · have hr := Lib.hid (bts_take_all s j (by omega))
      go_wp2
      go_ret
      exact ⟨ret_i (by rw [hr.out]), rfl⟩
end Go.Proofs.YtbjiiejgepgdeaaDoor.Ma
