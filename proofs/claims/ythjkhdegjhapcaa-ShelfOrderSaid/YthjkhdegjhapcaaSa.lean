/- The walks through cmp.Compare at strings and through the halving search of slices. -/
import Derived.Test.YthjkhdegjhapcaaProg
import Derived.WalkKit
import Derived.WalkLawsBesides
import Derived.Deep.QuietTactic
import Derived.BigQuiet
import Derived.Handy
import Derived.Lib.Hide
namespace Go.Proofs.Ythjkhdegjhapcaa.Sa
open Go.RowKit
theorem isNaN_any (s : ByteArray) (w : World) : Calls Try.prog 30 #[.string s] w fun e w' => e = .returned (.bool false) ∧ w = w' := by
  go_enter Try.func30, Try.ntmps30
  go_wp2
  go_ret
  exact ⟨by simp, rfl⟩
theorem ret_ib {a b : Int} {c d : Bool} (h : a = b) (h' : c = d) : Ending.returned (.tuple #[.int .i64 a, .bool c]) = .returned (.tuple #[.int .i64 b, .bool d]) := by rw [h, h']
/-- three-way comparison -/
def cmp3 (a b : ByteArray) : Int := if Op.bytesLess a.toList b.toList = true then -1 else if (a.toList == b.toList) = true then 0 else 1
theorem compare_any (a b : ByteArray) (w : World) : Calls Try.prog 28 #[.string a, .string b] w fun e w' => e = .returned (.int .i64 (cmp3 a b)) ∧ w = w' := by
  cases h1 : Op.bytesLess a.toList b.toList <;> cases h2 : (a.toList == b.toList)
  all_goals
    have h3 : cmp3 a b = cmp3 a b := rfl
    conv at h3 => rhs; unfold cmp3
    simp only [h1, h2] at h3
    have H3 := Lib.hid h3
    clear h3
    go_enter Try.func28, Try.ntmps28
    go_wp2_with (first | (go_at_call 30; refine (isNaN_any _ _).mono ?_; rintro e w' ⟨rfl, rfl⟩))
    go_ret
    exact ⟨by rw [H3.out]; simp, rfl⟩
theorem cmp3_lt {a b : ByteArray} (h : Op.bytesLess a.toList b.toList = true) : cmp3 a b = -1 := by unfold cmp3; rw [if_pos h]
theorem cmp3_ge {a b : ByteArray} (h : Op.bytesLess a.toList b.toList = false) : 0 ≤ cmp3 a b := by unfold cmp3; rw [h]; simp; split <;> omega
theorem cmp3_z {a b : ByteArray} (h : Op.bytesLess a.toList b.toList = false) : (cmp3 a b == 0) = (a.toList == b.toList) := by
  unfold cmp3; rw [h]; cases a.toList == b.toList <;> simp
theorem cmp3_bd (a b : ByteArray) : -1 ≤ cmp3 a b ∧ cmp3 a b ≤ 1 := by unfold cmp3; repeat' split <;> omega
theorem find1_any (a b : ByteArray) (n : Int) (w : World) : Calls Try.prog 27 #[.agg #[.string a, .int .i64 n], .string b] w fun e w' => e = .returned (.int .i64 (cmp3 a b)) ∧ Below w.heap.size w w' := by
  go_enter Try.func27, Try.ntmps27
  go_wp2_with (first | (go_at_call 28; refine (compare_any _ _ _).mono ?_; rintro e w' ⟨rfl, rfl⟩))
  go_ret
  exact ⟨rfl, by go_grown⟩
set_option maxHeartbeats 1000000 in
theorem bsearch_any (b o n cap c : Nat) (key : Nat → ByteArray) (val : Nat → Int) (t : ByteArray) (w : World) (hb : b < w.heap.size) (hn : n ≤ 1000000) (hcn : c ≤ n)
    (hcell : ∀ h, h < n → w.cell? ⟨b, o + h * 2, none⟩ = some (.string (key h)) ∧ w.cell? ⟨b, o + h * 2 + 1, none⟩ = some (.int .i64 (val h)))
    (hc : ∀ h, h < n → Op.bytesLess (key h).toList t.toList = decide (h < c)) :
    Calls Try.prog 26 #[.slice (some ⟨b, o, none⟩) n cap, .string t, .func (.func 27) #[] #[]] w fun e w' => e = .returned (.tuple #[.int .i64 c, .bool (decide (c < n) && (key c).toList == t.toList)]) ∧ Below w.heap.size w w' := by
  have HC := Lib.hid hcell
  have HT := Lib.hid hc
  clear hcell hc
  go_enter Try.func26, Try.ntmps26
  go_wp2
  go_loopw [9, 10] (fun i j wr => ∃ a d : Nat, a ≤ c ∧ c ≤ d ∧ d ≤ n ∧ i = .int .i64 a ∧ j = .int .i64 d ∧ Below w.heap.size w wr) (fun i j _ => (intOf j - intOf i).toNat)
  case atStart => exact ⟨0, n, by omega, by omega, by omega, rfl, rfl, Below.refl _ _⟩
  case round =>
    obtain ⟨a, d, a1, a2, a3, rfl, rfl, hB⟩ := hrel
    by_cases hlt : a < d
    · obtain ⟨k1, k2⟩ := HC.out ((a + d) / 2) (by omega)
      have kc := HT.out ((a + d) / 2) (by omega)
      have k1' := (hB.cell (p := ⟨b, o + (a + d) / 2 * 2, none⟩) hb).trans k1
      have k2' := (hB.cell (p := ⟨b, o + (a + d) / 2 * 2 + 1, none⟩) hb).trans k2
      clear k1 k2
      by_cases hk : (a + d) / 2 < c
      · have e1 := cmp3_lt (kc.trans (decide_eq_true hk))
        clear kc
        go_wp2_with (go_at_call 27; refine (find1_any _ _ _ _).mono ?_; rintro e w1 ⟨rfl, hB1⟩)
        go_roundw
        case rel => exact ⟨(a + d) / 2 + 1, d, by omega, by omega, by omega, by go_num, rfl, hB.trans (hB1.mono hB.size)⟩
        case measure => simp [intOf]; omega
      · have e1 := cmp3_ge (kc.trans (decide_eq_false hk))
        clear kc
        go_wp2_with (go_at_call 27; refine (find1_any _ _ _ _).mono ?_; rintro e w1 ⟨rfl, hB1⟩)
        go_roundw
        case rel => exact ⟨a, (a + d) / 2, by omega, by omega, by omega, rfl, by go_num, hB.trans (hB1.mono hB.size)⟩
        case measure => simp [intOf]; omega
    · obtain rfl : a = c := by omega
      by_cases hn2 : a < n
      · obtain ⟨k1, k2⟩ := HC.out a hn2
        have kc := HT.out a hn2
        have k1' := (hB.cell (p := ⟨b, o + a * 2, none⟩) hb).trans k1
        have k2' := (hB.cell (p := ⟨b, o + a * 2 + 1, none⟩) hb).trans k2
        have e1 := Lib.hid (cmp3_z (kc.trans (decide_eq_false (Nat.lt_irrefl _))))
        clear kc k1 k2
        go_wp2_with (go_at_call 27; refine (find1_any _ _ _ _).mono ?_; rintro e w1 ⟨rfl, hB1⟩)
        go_ret2
        exact ⟨ret_ib rfl (by rw [e1.out, decide_eq_true hn2, Bool.true_and]), hB.trans (hB1.mono hB.size)⟩
      · go_wp2
        go_ret2
        exact ⟨ret_ib rfl (by rw [decide_eq_false hn2, Bool.false_and]), hB⟩
end Go.Proofs.Ythjkhdegjhapcaa.Sa
