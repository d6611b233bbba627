/- Which days a rule lets pass, in plain lists and integers. -/
import Derived.Test.YtpfimkjfonijcaaDoorRu
import Derived.Test.YtpfimkjfonijcaaDoorWk
namespace Go.Proofs.YtpfimkjfonijcaaDoor.Dy
open Ru
/-- what is known of a day -/
structure F where
  day : Int
  month : Int
  date : Int
  weekday : Int
  inMonth : Int
  inYear : Int
  place : Int
  n0 : Int
  n1 : Int
  n2 : Int
  n3 : Int
def which (a : Int) : Int := a / 7 + 1
def about (n : Int) : F :=
  if Civ.isDay n = true then
    ⟨n, Civ.dateM n, Civ.dateD n, Civ.weekday n, Civ.len (Civ.dateY n) (Civ.dateM n), Civ.days (Civ.dateY n), Civ.place n,
      which (Civ.dateD n - 1), -which (Civ.len (Civ.dateY n) (Civ.dateM n) - Civ.dateD n), which (Civ.place n - 1), -which (Civ.days (Civ.dateY n) - Civ.place n)⟩
  else ⟨0, 0, 0, 0, 0, 0, 0, 0, 0, 0, 0⟩
def has (l : List Int) (a b : Int) : Bool := decide (l.length = 0) || (decide (a ∈ l) || decide (b ∈ l))
def ways (r : R) (f : F) : Int × Int := if r.freq = 5 ∨ 0 < r.month.length then (f.n0, f.n1) else (f.n2, f.n3)
def hit (f : F) (w : Int × Int) (d : Int × Int) : Bool := decide (d.2 = f.weekday) && (decide (d.1 = 0) || (decide (d.1 = w.1) || decide (d.1 = w.2)))
def onDay (r : R) (f : F) : Bool := decide (r.day.length = 0) || r.day.any (hit f (ways r f))
def likeStart (r : R) (s f : F) : Bool :=
  if r.freq < 4 ∨ 0 < r.yday.length + r.mday.length + r.day.length then true
  else if r.freq = 4 ∨ 0 < r.weekno.length then decide (f.weekday = s.weekday)
  else if r.freq = 5 ∨ 0 < r.month.length then decide (f.date = s.date)
  else decide (f.date = s.date) && decide (f.month = s.month)
def lets (r : R) (s f : F) : Bool :=
  (has r.month f.month f.month && (has r.yday f.place (f.place - f.inYear - 1) && has r.mday f.date (f.date - f.inMonth - 1))) &&
    ((decide (r.weekno.length = 0) || has r.weekno (Wk.numN f.day r.wkst) (Wk.backN f.day r.wkst)) && (onDay r f && likeStart r s f))
def passes (r : R) (start day : Int) : Bool :=
  Civ.isDay day && (Civ.isDay (start / 86400) && (decide (0 ≤ start) && (decide (chkR r = 0) && lets r (about (start / 86400)) (about day))))
/-- the days of a stretch that pass -/
def days (r : R) (start : Int) : Int → Nat → List Int
  | _, 0 => []
  | a, k + 1 => (if lets r (about (start / 86400)) (about a) = true then [a] else []) ++ days r start (a + 1) k
def daysOf (r : R) (start a b : Int) : List Int :=
  if a < 0 ∨ b < a ∨ 3652059 < b ∨ 366 < b - a ∨ start < 0 ∨ chkR r ≠ 0 ∨ Civ.isDay (start / 86400) = false then [] else days r start a (b - a).toNat
theorem days_snoc (r : R) (start : Int) : ∀ (k : Nat) (a : Int), days r start a (k + 1) = days r start a k ++ (if lets r (about (start / 86400)) (about (a + k)) = true then [a + (k : Int)] else [])
  | 0, a => by simp [days]
  | k + 1, a => by
    have ih := days_snoc r start k (a + 1)
    rw [show days r start a (k + 1 + 1) = (if lets r (about (start / 86400)) (about a) = true then [a] else []) ++ days r start (a + 1) (k + 1) from rfl, ih,
      show days r start a (k + 1) = (if lets r (about (start / 86400)) (about a) = true then [a] else []) ++ days r start (a + 1) k from rfl, List.append_assoc,
      show a + 1 + (k : Int) = a + ((k + 1 : Nat) : Int) by omega]
theorem days_le (r : R) (start : Int) : ∀ (k : Nat) (a : Int), (days r start a k).length ≤ k
  | 0, _ => by simp [days]
  | k + 1, a => by
    have ih := days_le r start k (a + 1)
    rw [show days r start a (k + 1) = (if lets r (about (start / 86400)) (about a) = true then [a] else []) ++ days r start (a + 1) k from rfl, List.length_append]
    split <;> simp <;> omega
theorem about_bd (n : Int) : 0 ≤ (about n).day ∧ (about n).day ≤ 3652058 ∧ 0 ≤ (about n).month ∧ (about n).month ≤ 12 ∧ 0 ≤ (about n).date ∧ (about n).date ≤ 31 ∧ 0 ≤ (about n).weekday ∧ (about n).weekday ≤ 6 ∧
    0 ≤ (about n).inMonth ∧ (about n).inMonth ≤ 31 ∧ 0 ≤ (about n).inYear ∧ (about n).inYear ≤ 366 ∧ 0 ≤ (about n).place ∧ (about n).place ≤ 366 := by
  unfold about
  by_cases h : Civ.isDay n = true
  · rw [if_pos h]
    have hh := (Civ.isDay_iff n).1 h
    obtain ⟨a1, a2, b1, b2, c1, c2, _⟩ := Civ.date_spec hh.1 hh.2
    have hl := (Civ.len_bd (Civ.dateY n) (Civ.dateM n))
    have hw := Civ.weekday_of hh.1 hh.2
    have hp := Civ.place_bd hh.1 hh.2
    have hd := Civ.days_eq a1 a2
    have ho := Civ.one_bd (Civ.dateY n)
    simp only []
    omega
  · rw [if_neg h]; simp
theorem about_in {n : Int} (h : Civ.isDay n = true) : (about n).date ≤ (about n).inMonth ∧ 1 ≤ (about n).date ∧ 1 ≤ (about n).place ∧ (about n).place ≤ (about n).inYear := by
  have hh := (Civ.isDay_iff n).1 h
  obtain ⟨a1, a2, b1, b2, c1, c2, e⟩ := Civ.date_spec hh.1 hh.2
  have hp := Civ.place_bd hh.1 hh.2
  have hp2 := Civ.place_of hh.1 hh.2
  have hd := Civ.days_eq a1 a2
  have o := Civ.date_of a1 a2 b1 b2 c1 c2
  have hs := Civ.ahead_succ a1 a2
  unfold about
  rw [if_pos h]
  simp only []
  omega
end Go.Proofs.YtpfimkjfonijcaaDoor.Dy
