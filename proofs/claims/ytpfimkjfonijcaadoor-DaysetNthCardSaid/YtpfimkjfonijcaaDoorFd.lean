/- Days of the month, or of the year, from either end, in plain integers. -/
import Derived.Test.YtpfimkjfonijcaaDoorFa
namespace Go.Proofs.YtpfimkjfonijcaaDoor.Da
open Ru
def rM (x : Int) : R := ⟨5, 1, 0, 0, 0, [], [], [], [], [x], [], [], [], [], 0⟩
def rY (x : Int) : R := ⟨6, 1, 0, 0, 0, [], [], [], [], [], [x], [], [], [], 0⟩
theorem bad_in {b x : Int} (h : (1 ≤ x ∧ x ≤ b) ∨ (-b ≤ x ∧ x ≤ -1)) : bad 1 b true x = false := by
  unfold bad absI
  simp only [Bool.not_true, Bool.and_false, Bool.or_false, Bool.or_eq_false_iff, decide_eq_false_iff_not]
  split <;> omega
theorem chk_rM {x : Int} (h : (1 ≤ x ∧ x ≤ 31) ∨ (-31 ≤ x ∧ x ≤ -1)) : chkR (rM x) = 0 := by
  have hb := bad_in h
  simp [chkR, head, errs, err, firstNZ, wrong, fits, numbered, rM, lst, lo, hi, sg, hb]
theorem chk_rY {x : Int} (h : (1 ≤ x ∧ x ≤ 366) ∨ (-366 ≤ x ∧ x ≤ -1)) : chkR (rY x) = 0 := by
  have hb := bad_in h
  simp [chkR, head, errs, err, firstNZ, wrong, fits, numbered, rY, lst, lo, hi, sg, hb]
theorem lets_rM (x : Int) (s f : Dy.F) : Dy.lets (rM x) s f = (decide (f.date = x) || decide (f.date - f.inMonth - 1 = x)) := by
  simp [Dy.lets, Dy.has, Dy.onDay, Dy.likeStart, rM]
theorem lets_rY (x : Int) (s f : Dy.F) : Dy.lets (rY x) s f = (decide (f.place = x) || decide (f.place - f.inYear - 1 = x)) := by
  simp [Dy.lets, Dy.has, Dy.onDay, Dy.likeStart, rY]
theorem ends_M {n i : Int} (h : Civ.isDay n = true) (h1 : 1 ≤ i) (h2 : i ≤ Civ.len (Civ.dateY n) (Civ.dateM n)) : Dy.passes (rM i) 0 n = Dy.passes (rM (i - Civ.len (Civ.dateY n) (Civ.dateM n) - 1)) 0 n := by
  have hl := Civ.len_bd (Civ.dateY n) (Civ.dateM n)
  have hi := Dy.about_in h
  have hm : (Dy.about n).inMonth = Civ.len (Civ.dateY n) (Civ.dateM n) := by unfold Dy.about; rw [if_pos h]
  unfold Dy.passes
  rw [chk_rM (x := i) (by omega), chk_rM (x := i - Civ.len (Civ.dateY n) (Civ.dateM n) - 1) (by omega), lets_rM, lets_rM, hm]
  rw [hm] at hi
  congr 4
  rw [Bool.eq_iff_iff]
  simp only [Bool.or_eq_true, decide_eq_true_iff]
  omega
theorem ends_Y {n i : Int} (h : Civ.isDay n = true) (h1 : 1 ≤ i) (h2 : i ≤ Civ.days (Civ.dateY n)) : Dy.passes (rY i) 0 n = Dy.passes (rY (i - Civ.days (Civ.dateY n) - 1)) 0 n := by
  have hb := Dy.about_bd n
  have hi := Dy.about_in h
  have hm : (Dy.about n).inYear = Civ.days (Civ.dateY n) := by unfold Dy.about; rw [if_pos h]
  unfold Dy.passes
  rw [hm] at hi hb
  rw [chk_rY (x := i) (by omega), chk_rY (x := i - Civ.days (Civ.dateY n) - 1) (by omega), lets_rY, lets_rY, hm]
  congr 4
  rw [Bool.eq_iff_iff]
  simp only [Bool.or_eq_true, decide_eq_true_iff]
  omega
end Go.Proofs.YtpfimkjfonijcaaDoor.Da
