/- The walk through errandref21's Check (printed by gen_check.py). -/
import Derived.Test.YtkbohijlhhpfbaaDoorRm
import Derived.Deep.RegionHeld3
namespace Go.Proofs.YtkbohijlhhpfbaaDoor.Ra
open Go.RowKit Ru Ut Cw
theorem chkR_eq {r : R} (h : ¬ 6 < r.freq) (h2 : ¬ (r.interval < 1 ∨ 1000 < r.interval ∨ r.count < 0 ∨ 1000 < r.count ∨ r.wkst < 0 ∨ 6 < r.wkst)) : chkR r = if untilE r ≠ 0 then untilE r else if errs r ≠ 0 then errs r else if fits r = true then 0 else 9 := by
  unfold chkR; rw [head_rest h h2]; rfl
theorem chkR_one {r : R} (h : 6 < r.freq) : chkR r = 11 := by unfold chkR; rw [head_one h]; rfl
theorem chkR_two {r : R} (h : ¬ 6 < r.freq) (h2 : r.interval < 1 ∨ 1000 < r.interval ∨ r.count < 0 ∨ 1000 < r.count ∨ r.wkst < 0 ∨ 6 < r.wkst) : chkR r = 8 := by unfold chkR; rw [head_two h h2]; rfl
theorem others_sum (r : R) : others r = (r.sec.length : Int) + r.min.length + r.hour.length + r.day.length + r.mday.length + r.yday.length + r.weekno.length + r.month.length := by unfold others; omega
theorem fin9f {r : R} (h : chkR r = if fits r = true then 0 else 9) (hN : numbered r.day = false) (hb : (0 < r.mday.length ∧ r.freq = 4) ∨ (0 < r.yday.length ∧ 3 ≤ r.freq ∧ r.freq ≤ 5) ∨ (0 < r.weekno.length ∧ ¬ r.freq = 6) ∨ (0 < r.setpos.length ∧ (r.sec.length : Int) + r.min.length + r.hour.length + r.day.length + r.mday.length + r.yday.length + r.weekno.length + r.month.length = 0)) : chkR r = 9 := by
  rw [h, if_neg]
  rw [fits_iff, hN, others_sum]
  simp only [Bool.false_eq_true, false_and, not_false_eq_true, true_and]
  omega
theorem fin0f {r : R} (h : chkR r = if fits r = true then 0 else 9) (hN : numbered r.day = false) (hb : ¬ ((0 < r.mday.length ∧ r.freq = 4) ∨ (0 < r.yday.length ∧ 3 ≤ r.freq ∧ r.freq ≤ 5) ∨ (0 < r.weekno.length ∧ ¬ r.freq = 6) ∨ (0 < r.setpos.length ∧ (r.sec.length : Int) + r.min.length + r.hour.length + r.day.length + r.mday.length + r.yday.length + r.weekno.length + r.month.length = 0))) : chkR r = 0 := by
  rw [h, if_pos]
  rw [fits_iff, hN, others_sum]
  simp only [Bool.false_eq_true, false_and, not_false_eq_true, true_and]
  omega
theorem fin9t {r : R} (h : chkR r = if fits r = true then 0 else 9) (hN : numbered r.day = true) (hb : r.freq < 5 ∨ 0 < r.weekno.length ∨ (0 < r.mday.length ∧ r.freq = 4) ∨ (0 < r.yday.length ∧ 3 ≤ r.freq ∧ r.freq ≤ 5) ∨ (0 < r.weekno.length ∧ ¬ r.freq = 6) ∨ (0 < r.setpos.length ∧ (r.sec.length : Int) + r.min.length + r.hour.length + r.day.length + r.mday.length + r.yday.length + r.weekno.length + r.month.length = 0)) : chkR r = 9 := by
  rw [h, if_neg]
  rw [fits_iff, hN, others_sum]
  simp only [true_and]
  omega
theorem fin0t {r : R} (h : chkR r = if fits r = true then 0 else 9) (hN : numbered r.day = true) (hb : ¬ (r.freq < 5 ∨ 0 < r.weekno.length ∨ (0 < r.mday.length ∧ r.freq = 4) ∨ (0 < r.yday.length ∧ 3 ≤ r.freq ∧ r.freq ≤ 5) ∨ (0 < r.weekno.length ∧ ¬ r.freq = 6) ∨ (0 < r.setpos.length ∧ (r.sec.length : Int) + r.min.length + r.hour.length + r.day.length + r.mday.length + r.yday.length + r.weekno.length + r.month.length = 0))) : chkR r = 0 := by
  rw [h, if_pos]
  rw [fits_iff, hN, others_sum]
  simp only [true_and]
  omega
end Go.Proofs.YtkbohijlhhpfbaaDoor.Ra
