/- The walks through errandref23's is, both and Nth. -/
import Derived.Test.YtpfimkjfonijcaaDoorRk
import Derived.Test.YtpfimkjfonijcaaDoorRi
import Derived.Test.YtpfimkjfonijcaaDoorRj
import Derived.Test.YtpfimkjfonijcaaDoorDy
import Derived.Test.YtpfimkjfonijcaaDoorCr
namespace Go.Proofs.YtpfimkjfonijcaaDoor.Da
open Go.RowKit Ru Ut Cw Ra
theorem ris_any (n : Int) (w : World) : Calls Tryd.prog 28 #[.int .i64 n] w fun e w' => e = .returned (.bool (Civ.isDay n)) ∧ w = w' := by
  by_cases h0 : 0 ≤ n
  · by_cases h1 : n ≤ 3652058
    · have hr := Lib.hid (show Civ.isDay n = true from (Civ.isDay_iff n).2 ⟨h0, h1⟩)
      go_enter Tryd.func28, Tryd.ntmps28
      go_wp2
      go_ret
      exact ⟨ret_b hr.out.symm, rfl⟩
    · have hr := Lib.hid (show Civ.isDay n = false by rw [← Bool.not_eq_true, Civ.isDay_iff]; omega)
      go_enter Tryd.func28, Tryd.ntmps28
      go_wp2
      go_ret
      exact ⟨ret_b hr.out.symm, rfl⟩
  · have hr := Lib.hid (show Civ.isDay n = false by rw [← Bool.not_eq_true, Civ.isDay_iff]; omega)
    go_enter Tryd.func28, Tryd.ntmps28
    go_wp2
    go_ret
    exact ⟨ret_b hr.out.symm, rfl⟩
def both (l : List Int) (n size : Int) : Bool := decide (n ∈ l) || decide (n - size - 1 ∈ l)
theorem both_any {w : World} {v : Value} {l : List Int} (n size : Int) (hl : Ints w v l) (hn : l.length ≤ 1000) (n0 : 0 ≤ n) (n1 : n ≤ 1000) (s0 : 0 ≤ size) (s1 : size ≤ 1000) : Calls Tryd.prog 56 #[v, .int .i64 n, .int .i64 size] w fun e w' => e = .returned (.bool (both l n size)) ∧ w = w' := by
  have F1 := rHas_any n hl (by omega)
  have F2 := rHas_any (n - size - 1) hl (by omega)
  obtain ⟨p, c, rfl⟩ := hl.slice
  clear hl
  by_cases ha : n ∈ l
  · have hr := Lib.hid (show both l n size = true by unfold both; rw [decide_eq_true ha]; rfl)
    rw [decide_eq_true ha] at F1
    replace F1 := Lib.hid F1
    clear F2 ha
    go_enter Tryd.func56, Tryd.ntmps56
    go_wp2_with (first | (go_at_call 53; (with_reducible refine F1.out.mono ?_); rintro e w' ⟨rfl, rfl⟩))
    go_ret
    exact ⟨ret_b hr.out.symm, rfl⟩
  · have hr := Lib.hid (show both l n size = decide (n - size - 1 ∈ l) by unfold both; rw [decide_eq_false ha]; rfl)
    rw [decide_eq_false ha] at F1
    replace F1 := Lib.hid F1
    replace F2 := Lib.hid F2
    clear ha
    go_enter Tryd.func56, Tryd.ntmps56
    go_wp2_with (first | (go_at_call 53; (with_reducible refine F1.out.mono ?_); rintro e w' ⟨rfl, rfl⟩; clear F1) | (go_at_call 53; (with_reducible refine F2.out.mono ?_); rintro e w' ⟨rfl, rfl⟩))
    go_ret
    exact ⟨ret_b hr.out.symm, rfl⟩
theorem about_at {n : Int} (h : Civ.isDay n = true) : Dy.about n = ⟨n, Civ.dateM n, Civ.dateD n, Civ.weekday n, Civ.len (Civ.dateY n) (Civ.dateM n), Civ.days (Civ.dateY n), Civ.place n, Dy.which (Civ.dateD n - 1), -Dy.which (Civ.len (Civ.dateY n) (Civ.dateM n) - Civ.dateD n), Dy.which (Civ.place n - 1), -Dy.which (Civ.days (Civ.dateY n) - Civ.place n)⟩ := by
  unfold Dy.about; rw [if_pos h]
theorem about_not {n : Int} (h : Civ.isDay n = false) : Dy.about n = ⟨0, 0, 0, 0, 0, 0, 0, 0, 0, 0, 0⟩ := by
  unfold Dy.about; rw [if_neg (by rw [h]; decide)]
def nthV (f : Dy.F) : Value := .agg #[.int .i64 f.n0, .int .i64 f.n1, .int .i64 f.n2, .int .i64 f.n3]
set_option maxHeartbeats 2000000 in
theorem rNth_any (n : Int) (w : World) : Calls Tryd.prog 13 #[.int .i64 n] w fun e w' => e = .returned (nthV (Dy.about n)) ∧ Below w.heap.size w w' := by
  unfold nthV
  have FI := ris_any n
  cases h : Civ.isDay n
  · rw [about_not h]
    rw [h] at FI
    replace FI := Lib.hid FI
    clear h
    go_enter Tryd.func13, Tryd.ntmps13
    go_wp2_with (first | (go_at_call 28; (with_reducible refine (FI.out _).mono ?_); rintro e w' ⟨rfl, rfl⟩))
    exact bodyPost_ret (v := .agg #[.int .i64 0, .int .i64 0, .int .i64 0, .int .i64 0]) (by simp [results, Tryd.results13, go_sem]) rfl ⟨rfl, by (repeat' (first | assumption | exact Below.refl _ _ | apply Below.next_alloc | apply Below.drew | (apply Below.next; rotate_left; assumption)))⟩
  · have hb := Dy.about_bd n
    have hi := Dy.about_in h
    rw [about_at h] at hb hi ⊢
    rw [h] at FI
    have FD := Lib.hid (rDate_any n)
    have FP := Lib.hid (rPlace_any n)
    have FL := Lib.hid (rLen_any (Civ.dateY n) (Civ.dateM n))
    have FY := Lib.hid (rDays_any (Civ.dateY n))
    replace FI := Lib.hid FI
    clear h
    simp only at hb hi ⊢
    unfold Dy.which
    generalize Civ.dateY n = y at *
    generalize Civ.dateM n = m at *
    generalize Civ.dateD n = d at *
    generalize Civ.len y m = L at *
    generalize Civ.days y = Y at *
    generalize Civ.place n = p at *
    obtain ⟨-, -, m0, m1, d0, d1, -, -, L0, L1, Y0, Y1, p0, p1⟩ := hb
    obtain ⟨i1, i2, i3, i4⟩ := hi
    go_enter Tryd.func13, Tryd.ntmps13
    go_wp2_with (first
      | (go_at_call 28; (with_reducible refine (FI.out _).mono ?_); rintro e w' ⟨rfl, rfl⟩)
      | (go_at_call 30; (with_reducible refine (FD.out _).mono ?_); rintro e w' ⟨rfl, rfl⟩)
      | (go_at_call 31; (with_reducible refine (FP.out _).mono ?_); rintro e w' ⟨rfl, rfl⟩)
      | (go_at_call 32; (with_reducible refine (FL.out _).mono ?_); rintro e w' ⟨rfl, rfl⟩)
      | (go_at_call 33; (with_reducible refine (FY.out _).mono ?_); rintro e w' ⟨rfl, rfl⟩))
    exact bodyPost_ret (v := .agg #[.int .i64 ((d - 1) / 7 + 1), .int .i64 (-((L - d) / 7 + 1)), .int .i64 ((p - 1) / 7 + 1), .int .i64 (-((Y - p) / 7 + 1))]) (by simp [results, Tryd.results13, go_sem]) rfl ⟨rfl, by (repeat' (first | assumption | exact Below.refl _ _ | apply Below.next_alloc | apply Below.drew | (apply Below.next; rotate_left; assumption)))⟩
end Go.Proofs.YtpfimkjfonijcaaDoor.Da
