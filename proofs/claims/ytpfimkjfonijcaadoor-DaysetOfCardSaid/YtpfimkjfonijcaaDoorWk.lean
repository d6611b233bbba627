/- The plain arithmetic of weeks: no program. -/
import Derived.Test.YtpfimkjfonijcaaDoorCiv
namespace Go.Proofs.YtpfimkjfonijcaaDoor.Wk
open Civ
/-- how many days ahead of a day its week began -/
def back (n w : Int) : Int := (n - w) % 7
def isStart (w : Int) : Bool := decide (0 ≤ w) && decide (w < 7)
def begin (n w : Int) : Int := if isStart w = true ∧ 0 ≤ n ∧ n ≤ 3652058 then n - back n w else 0
/-- where a year's first week begins -/
def fst (y w : Int) : Int := ahead y + 3 - back (ahead y + 3) w
def first (y w : Int) : Int := if isStart w = true ∧ 0 ≤ y ∧ y ≤ 10001 then fst y w else 0
def weeks (y w : Int) : Int := if isStart w = true ∧ 0 ≤ y ∧ y ≤ 10000 then (fst (y + 1) w - fst y w) / 7 else 0
def year (n w : Int) : Int := if n < fst (dateY n) w then dateY n - 1 else if fst (dateY n + 1) w ≤ n then dateY n + 1 else dateY n
def numY (n w : Int) : Int := if isStart w = true ∧ 0 ≤ n ∧ n ≤ 3652058 then year n w else 0
def numN (n w : Int) : Int := if isStart w = true ∧ 0 ≤ n ∧ n ≤ 3652058 then (n - fst (year n w) w) / 7 + 1 else 0
def backN (n w : Int) : Int := if numN n w = 0 then 0 else numN n w - 1 - weeks (numY n w) w
theorem isStart_iff (w : Int) : isStart w = true ↔ 0 ≤ w ∧ w < 7 := by simp [isStart]
theorem back_bd (n w : Int) : 0 ≤ back n w ∧ back n w < 7 := by unfold back; omega
theorem fst_bd (y w : Int) : ahead y - 3 ≤ fst y w ∧ fst y w ≤ ahead y + 3 := by
  have := back_bd (ahead y + 3) w
  unfold fst; omega
theorem fst_mod (y w : Int) : (fst y w - w) % 7 = 0 := by unfold fst back; omega
theorem ahead_0 : ahead 0 = -366 := by decide
theorem ahead_10002 : ahead 10002 = 3652059 + 366 + 365 := by decide
theorem ahead_rng {y : Int} (h1 : 0 ≤ y) (h2 : y ≤ 10002) : -366 ≤ ahead y ∧ ahead y ≤ 3652790 := by
  have a := ahead_mono (y := 0) (z := y) h1
  have b := ahead_mono (y := y) (z := 10002) h2
  have := ahead_0
  have := ahead_10002
  omega
theorem fst_mono {y z w : Int} (h : y < z) : fst y w < fst z w := by
  have a := ahead_mono (y := y) (z := z) (by omega)
  have := fst_bd y w
  have := fst_bd z w
  omega
theorem fst_mono_le {y z w : Int} (h : y ≤ z) : fst y w ≤ fst z w := by
  by_cases e : y = z
  · subst e; omega
  · have := fst_mono (w := w) (y := y) (z := z) (by omega); omega
/-- the year of a day's week lies at the day's year or beside it -/
theorem year_spec {n : Int} (w : Int) (h1 : 0 ≤ n) (h2 : n ≤ 3652058) : fst (year n w) w ≤ n ∧ n < fst (year n w + 1) w ∧ dateY n - 1 ≤ year n w ∧ year n w ≤ dateY n + 1 ∧ 0 ≤ year n w ∧ year n w ≤ 10000 := by
  obtain ⟨y1, y2, m1, m2, d1, d2, de⟩ := date_spec h1 h2
  have hb := date_of y1 y2 m1 m2 d1 d2
  rw [de] at hb
  generalize hY : dateY n = Y at *
  have e0 : fst (Y - 1) w ≤ n := by
    have := fst_bd (Y - 1) w
    have := ahead_mono (y := Y - 1) (z := Y) (by omega)
    omega
  have e3 : n < fst (Y + 1 + 1) w := by
    have := fst_bd (Y + 1 + 1) w
    have := ahead_mono (y := Y + 1) (z := Y + 1 + 1) (by omega)
    omega
  unfold year
  rw [hY]
  split
  · have e : Y - 1 + 1 = Y := by omega
    rw [e]; exact ⟨e0, by assumption, by omega, by omega, by omega, by omega⟩
  · split
    · exact ⟨by assumption, e3, by omega, by omega, by omega, by omega⟩
    · exact ⟨by omega, by omega, by omega, by omega, by omega, by omega⟩
theorem year_unique {n w y z : Int} (h1 : fst y w ≤ n) (h2 : n < fst (y + 1) w) (h3 : fst z w ≤ n) (h4 : n < fst (z + 1) w) : y = z := by
  by_cases h : y < z
  · have := fst_mono_le (y := y + 1) (z := z) (w := w) (by omega); omega
  · by_cases h' : z < y
    · have := fst_mono_le (y := z + 1) (z := y) (w := w) (by omega); omega
    · omega
end Go.Proofs.YtpfimkjfonijcaaDoor.Wk
