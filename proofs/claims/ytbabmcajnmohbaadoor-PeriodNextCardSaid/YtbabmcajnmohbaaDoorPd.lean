/- The plain arithmetic of periods: no program. -/
import Derived.Test.YtbabmcajnmohbaaDoorWk
namespace Go.Proofs.YtbabmcajnmohbaaDoor.Pd
open Civ
def counts (f w : Int) : Bool := decide (f ≤ 6) && decide (0 ≤ w ∧ w ≤ 6)
def unit (f : Int) : Int := if f = 0 then 1 else if f = 1 then 60 else if f = 2 then 3600 else 86400
/-- the number of a second's period, of a way of counting that there is -/
def num (f w s : Int) : Int :=
  if f ≤ 3 then s / unit f
  else if f = 4 then (s / 86400 - Wk.back (s / 86400) w - w) / 7 + 1
  else if f = 5 then dateY (s / 86400) * 12 + dateM (s / 86400) - 1
  else dateY (s / 86400)
def index (f w s : Int) : Int := if (counts f w = true ∧ 0 ≤ s ∧ s ≤ 315537897599) then num f w s else -1
def last (f w : Int) : Int := index f w 315537897599
/-- the first day of a long period, and the day behind its last one -/
def day0 (f w i : Int) : Int := if f = 4 then (i - 1) * 7 + w else if f = 5 then day (i / 12) (i % 12 + 1) 1 else day i 1 1
def day1 (f w i : Int) : Int := if f = 4 then (i - 1) * 7 + w + 7 else if f = 5 then day (i / 12) (i % 12 + 1) 1 + len (i / 12) (i % 12 + 1) else day i 1 1 + days i
def lo (d : Int) : Int := if 0 ≤ d then d * 86400 else 0
def hi (d : Int) : Int := if d ≤ 3652059 then d * 86400 else 315537897600
def frm (f w i : Int) : Int := if (counts f w = true ∧ index f w 0 ≤ i ∧ i ≤ last f w) then (if f ≤ 3 then i * unit f else lo (day0 f w i)) else 0
def to (f w i : Int) : Int := if (counts f w = true ∧ index f w 0 ≤ i ∧ i ≤ last f w) then (if f ≤ 3 then (i + 1) * unit f else hi (day1 f w i)) else 0
def step (first interval at_ : Int) : Int :=
  if interval < 1 ∨ 1000 < interval ∨ first < 0 ∨ 315537897600 < first ∨ at_ < 0 ∨ 315537897600 < at_ then -1
  else if at_ ≤ first then first
  else first + (at_ - first + interval - 1) / interval * interval
theorem counts_iff (f w : Int) : counts f w = true ↔ f ≤ 6 ∧ 0 ≤ w ∧ w ≤ 6 := by simp [counts]
theorem index_of {f w s : Int} (hc : counts f w = true) (h1 : 0 ≤ s) (h2 : s ≤ 315537897599) : index f w s = num f w s := by
  unfold index; rw [if_pos ⟨hc, h1, h2⟩]
theorem dateY_0 : dateY 0 = 1 := by decide
theorem dateM_0 : dateM 0 = 1 := by decide
theorem dateY_l : dateY 3652058 = 9999 := by decide
theorem dateM_l : dateM 3652058 = 12 := by decide
theorem idx_lo {f w : Int} (hc : counts f w = true) (f0 : 0 ≤ f) : index f w 0 = if f ≤ 3 then 0 else if f = 4 then (if w = 0 then 1 else 0) else if f = 5 then 12 else 1 := by
  obtain ⟨c1, c2, c3⟩ := (counts_iff f w).1 hc
  rw [index_of hc (by omega) (by omega)]
  have hf : f = 0 ∨ f = 1 ∨ f = 2 ∨ f = 3 ∨ f = 4 ∨ f = 5 ∨ f = 6 := by omega
  have e : (0 : Int) / 86400 = 0 := by decide
  rcases hf with rfl | rfl | rfl | rfl | rfl | rfl | rfl
  · simp [num, unit]
  · simp [num, unit]
  · simp [num, unit]
  · simp [num, unit]
  · simp only [num, e, Wk.back]
    simp only [Int.reduceLE, Int.reduceEq, if_true, if_false]
    split <;> omega
  · simp [num, dateY_0, dateM_0]
  · simp [num, dateY_0]
theorem idx_hi {f w : Int} (hc : counts f w = true) (f0 : 0 ≤ f) : last f w = if f = 0 then 315537897599 else if f = 1 then 5258964959 else if f = 2 then 87649415 else if f = 3 then 3652058 else if f = 4 then (3652058 - Wk.back 3652058 w - w) / 7 + 1 else if f = 5 then 119999 else 9999 := by
  obtain ⟨c1, c2, c3⟩ := (counts_iff f w).1 hc
  unfold last
  rw [index_of hc (by omega) (by omega)]
  have hf : f = 0 ∨ f = 1 ∨ f = 2 ∨ f = 3 ∨ f = 4 ∨ f = 5 ∨ f = 6 := by omega
  have e : (315537897599 : Int) / 86400 = 3652058 := by decide
  rcases hf with rfl | rfl | rfl | rfl | rfl | rfl | rfl
  · simp [num, unit]
  · simp [num, unit]
  · simp [num, unit]
  · simp [num, unit]
  · simp [num, e]
  · simp [num, e, dateY_l, dateM_l]
  · simp [num, e, dateY_l]
theorem idx_rng {f w i : Int} (hc : counts f w = true) (f0 : 0 ≤ f) (h1 : index f w 0 ≤ i) (h2 : i ≤ last f w) :
    (f = 0 → 0 ≤ i ∧ i ≤ 315537897599) ∧ (f = 1 → 0 ≤ i ∧ i ≤ 5258964959) ∧ (f = 2 → 0 ≤ i ∧ i ≤ 87649415) ∧ (f = 3 → 0 ≤ i ∧ i ≤ 3652058) ∧ (f = 4 → 0 ≤ i ∧ i ≤ 600000) ∧ (f = 5 → 12 ≤ i ∧ i ≤ 119999) ∧ (f = 6 → 1 ≤ i ∧ i ≤ 9999) := by
  obtain ⟨c1, c2, c3⟩ := (counts_iff f w).1 hc
  have b := Wk.back_bd 3652058 w
  rw [idx_lo hc f0] at h1
  rw [idx_hi hc f0] at h2
  have hf : f = 0 ∨ f = 1 ∨ f = 2 ∨ f = 3 ∨ f = 4 ∨ f = 5 ∨ f = 6 := by omega
  rcases hf with rfl | rfl | rfl | rfl | rfl | rfl | rfl <;> simp at h1 h2 ⊢ <;> (try split at h1) <;> omega
theorem up_pos {p k : Int} (hk : 0 < k) (hr : 0 < p % k) : (p + k - 1) / k * k = p + (k - p % k) := by
  have h := Int.emod_add_mul_ediv p k
  have h2 := Int.emod_lt_of_pos p hk
  have hu : (p + k - 1) / k = p / k + 1 := ((Int.ediv_emod_unique (r := p % k - 1) hk).2 ⟨by rw [Int.mul_add]; omega, by omega, by omega⟩).1
  rw [hu, Int.mul_comm, Int.mul_add]
  omega
theorem up_zero {p k : Int} (hk : 0 < k) (hr : p % k = 0) : (p + k - 1) / k * k = p := by
  have h := Int.emod_add_mul_ediv p k
  have hu : (p + k - 1) / k = p / k := ((Int.ediv_emod_unique (r := k - 1) hk).2 ⟨by omega, by omega, by omega⟩).1
  rw [hu, Int.mul_comm]
  omega
theorem up_bd {p k : Int} (hk : 0 < k) (hp : 0 ≤ p) : 0 ≤ (p + k - 1) / k * k ∧ p ≤ (p + k - 1) / k * k ∧ (p + k - 1) / k * k ≤ p + k - 1 := by
  have h2 := Int.emod_lt_of_pos p hk
  have h3 := Int.emod_nonneg p (b := k) (by omega)
  by_cases h : p % k = 0
  · rw [up_zero hk h]; omega
  · rw [up_pos hk (by omega)]; omega
end Go.Proofs.YtbabmcajnmohbaaDoor.Pd
