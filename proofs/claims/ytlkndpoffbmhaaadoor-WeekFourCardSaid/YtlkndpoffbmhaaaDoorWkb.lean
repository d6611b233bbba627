/- Plain facts on weeks, for the laws. -/
import Derived.Test.YtlkndpoffbmhaaaDoorWk
namespace Go.Proofs.YtlkndpoffbmhaaaDoor.Wk
open Civ
theorem dateY_eq {d a : Int} (h1 : 0 ≤ d) (h2 : d ≤ 3652058) (h3 : ahead a ≤ d) (h4 : d < ahead (a + 1)) : dateY d = a := by
  obtain ⟨y1, y2, m1, m2, d1, d2, e⟩ := date_spec h1 h2
  have b := date_of y1 y2 m1 m2 d1 d2
  rw [e] at b
  exact Civ.year_unique b.2.2.1 b.2.2.2 h3 h4
/-- how many of the first k days from B on are of the year a -/
def cnt (a B : Int) : Nat → Int
  | 0 => 0
  | k + 1 => cnt a B k + if dateY (B + k) = a then 1 else 0
theorem cnt_bd (a B : Int) (k : Nat) : 0 ≤ cnt a B k ∧ cnt a B k ≤ k := by
  induction k with
  | zero => simp [cnt]
  | succ k ih => simp only [cnt]; split <;> omega
theorem cnt_four {n w : Int} (h1 : 365 ≤ n) (h2 : n ≤ 3651693) : 4 ≤ cnt (year n w) (n - back n w) 7 := by
  obtain ⟨s1, s2, s3, s4, s5, s6⟩ := year_spec w (by omega : 0 ≤ n) (by omega : n ≤ 3652058)
  have e1 := fst_bd (year n w) w
  have e2 := fst_bd (year n w + 1) w
  have m1 := fst_mod (year n w) w
  have m2 := fst_mod (year n w + 1) w
  have hb : back n w = (n - w) % 7 := rfl
  have e5 : ahead (year n w) + 365 ≤ ahead (year n w + 1) := by unfold ahead; omega
  obtain ⟨B, hB⟩ : ∃ B, B = n - back n w := ⟨_, rfl⟩
  rw [← hB]
  generalize year n w = a at *
  have b1 : fst a w ≤ B := by omega
  have b2 : B + 7 ≤ fst (a + 1) w := by omega
  have b3 : 0 ≤ B ∧ B + 6 ≤ 3652058 := by omega
  clear m1 m2 hb hB s1 s2 s3 s4 s5 s6
  simp only [cnt]
  by_cases c : ahead a ≤ B
  · have d0 : dateY (B + ((0 : Nat) : Int)) = a := dateY_eq (by omega) (by omega) (by omega) (by omega)
    have d1 : dateY (B + ((1 : Nat) : Int)) = a := dateY_eq (by omega) (by omega) (by omega) (by omega)
    have d2 : dateY (B + ((2 : Nat) : Int)) = a := dateY_eq (by omega) (by omega) (by omega) (by omega)
    have d3 : dateY (B + ((3 : Nat) : Int)) = a := dateY_eq (by omega) (by omega) (by omega) (by omega)
    rw [if_pos d0, if_pos d1, if_pos d2, if_pos d3]
    repeat' split
    all_goals omega
  · have d3 : dateY (B + ((3 : Nat) : Int)) = a := dateY_eq (by omega) (by omega) (by omega) (by omega)
    have d4 : dateY (B + ((4 : Nat) : Int)) = a := dateY_eq (by omega) (by omega) (by omega) (by omega)
    have d5 : dateY (B + ((5 : Nat) : Int)) = a := dateY_eq (by omega) (by omega) (by omega) (by omega)
    have d6 : dateY (B + ((6 : Nat) : Int)) = a := dateY_eq (by omega) (by omega) (by omega) (by omega)
    rw [if_pos d3, if_pos d4, if_pos d5, if_pos d6]
    repeat' split
    all_goals omega
theorem ends {y w : Int} (h1 : 2 ≤ y) (h2 : y ≤ 9998) (w1 : 0 ≤ w) (w2 : w < 7) : numY (ahead y + 3) w = y ∧ numN (ahead y + 3) w = 1 ∧ numY (ahead y + days y - 4) w = y ∧ numN (ahead y + days y - 4) w = weeks y w := by
  have hs := (isStart_iff w).2 ⟨w1, w2⟩
  have hd := days_eq (y := y) (by omega) (by omega)
  have ha := ahead_succ (y := y) (by omega) (by omega)
  have o := one_bd y
  have e1 := fst_bd y w
  have e2 := fst_bd (y + 1) w
  have m1 := fst_mod y w
  have m2 := fst_mod (y + 1) w
  have g1 := ahead_mono (y := 2) (z := y) h1
  have g2 := ahead_mono (y := y + 1) (z := 9999) (by omega)
  have g3 : ahead 2 = 365 := by decide
  have g4 : ahead 9999 = 3651694 := by decide
  have hf : fst y w = ahead y + 3 - back (ahead y + 3) w := rfl
  have hf' : fst (y + 1) w = ahead (y + 1) + 3 - back (ahead (y + 1) + 3) w := rfl
  have b1 := back_bd (ahead y + 3) w
  have b2 := back_bd (ahead (y + 1) + 3) w
  have y1 : year (ahead y + 3) w = y := by
    obtain ⟨s1, s2, _⟩ := year_spec (n := ahead y + 3) w (by omega) (by omega)
    exact year_unique s1 s2 (by omega) (by omega)
  have y2 : year (ahead y + days y - 4) w = y := by
    obtain ⟨s1, s2, _⟩ := year_spec (n := ahead y + days y - 4) w (by omega) (by omega)
    exact year_unique s1 s2 (by omega) (by omega)
  unfold numY numN weeks
  rw [if_pos ⟨hs, by omega, by omega⟩, if_pos ⟨hs, by omega, by omega⟩, if_pos ⟨hs, by omega, by omega⟩, if_pos ⟨hs, by omega, by omega⟩, if_pos ⟨hs, by omega, by omega⟩, y1, y2]
  exact ⟨rfl, by omega, rfl, by omega⟩
end Go.Proofs.YtlkndpoffbmhaaaDoor.Wk
