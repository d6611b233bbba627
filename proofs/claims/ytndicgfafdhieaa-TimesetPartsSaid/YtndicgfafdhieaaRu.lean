/- What makes a rule sound, in plain lists and integers. -/
import Derived.Test.YtndicgfafdhieaaMo
namespace Go.Proofs.Ytndicgfafdhieaa.Ru
/-- a rule; a weekday is its number and its day -/
structure R where
  freq : Int
  interval : Int
  count : Int
  uk : Int
  us : Int
  sec : List Int
  min : List Int
  hour : List Int
  day : List (Int × Int)
  mday : List Int
  yday : List Int
  weekno : List Int
  month : List Int
  setpos : List Int
  wkst : Int
/-- the list of a part, by the part's number -/
def lst (r : R) (q : Nat) : List Int :=
  if q = 4 then r.sec else if q = 5 then r.min else if q = 6 then r.hour else if q = 8 then r.mday else if q = 9 then r.yday else if q = 10 then r.weekno else if q = 11 then r.month else r.setpos
def lo (q : Nat) : Int := if q ≤ 6 then 0 else 1
def hi (q : Nat) : Int := if q ≤ 5 then 59 else if q = 6 then 23 else if q = 8 then 31 else if q = 10 then 53 else if q = 11 then 12 else 366
def sg (q : Nat) : Bool := decide (q = 8) || decide (q = 9) || decide (q = 10) || decide (q = 12)
def absI (n : Int) : Int := if n < 0 then -n else n
def bad (a b : Int) (s : Bool) (n : Int) : Bool := decide (n < -b) || (decide (absI n < a) || (decide (b < absI n) || (decide (n < 0) && !s)))
/-- what is wrong with a list -/
def wrong {α : Type} [DecidableEq α] (p : α → Bool) (l : List α) : Int := if 12 < l.length then 20 else if l.any p = true then 8 else if l.Nodup then 0 else 19
def badDay (d : Int × Int) : Bool := decide (d.2 < 0) || (decide (6 < d.2) || (decide (d.1 < -53) || decide (53 < d.1)))
def err (r : R) (q : Nat) : Int := if q = 7 then wrong badDay r.day else wrong (bad (lo q) (hi q) (sg q)) (lst r q)
def firstNZ : List Int → Int
  | [] => 0
  | x :: l => if x = 0 then firstNZ l else x
def errs (r : R) : Int := firstNZ [err r 4, err r 5, err r 6, err r 7, err r 8, err r 9, err r 10, err r 11, err r 12]
def head (r : R) : Int :=
  if 6 < r.freq then 11 else if r.interval < 1 ∨ 1000 < r.interval ∨ r.count < 0 ∨ 1000 < r.count ∨ r.wkst < 0 ∨ 6 < r.wkst then 8
  else if r.uk = 0 ∧ r.us = 0 then 0 else if r.uk = 0 then 2 else if Mo.chk r.uk r.us ≠ 0 then Mo.chk r.uk r.us else if 0 < r.count then 9 else 0
def numbered (l : List (Int × Int)) : Bool := l.any fun d => !decide (d.1 = 0)
def others (r : R) : Int := r.day.length + r.sec.length + r.min.length + r.hour.length + r.mday.length + r.yday.length + r.weekno.length + r.month.length
def fits (r : R) : Bool :=
  !(numbered r.day && (decide (r.freq < 5) || decide (0 < r.weekno.length))) && (!(decide (0 < r.mday.length) && decide (r.freq = 4)) && (!(decide (0 < r.weekno.length) && !decide (r.freq = 6)) &&
    (!(decide (0 < r.yday.length) && (decide (r.freq = 3) || (decide (r.freq = 4) || decide (r.freq = 5)))) && (decide (r.setpos.length = 0) || decide (0 < others r)))))
def chkR (r : R) : Int := if head r ≠ 0 then head r else if errs r ≠ 0 then errs r else if fits r = true then 0 else 9
theorem errs_first {r : R} {p : Nat} (h4 : 4 ≤ p) (h12 : p ≤ 12) (hz : ∀ q, 4 ≤ q → q < p → err r q = 0) (hp : err r p ≠ 0) : errs r = err r p := by
  have hc : p = 4 ∨ p = 5 ∨ p = 6 ∨ p = 7 ∨ p = 8 ∨ p = 9 ∨ p = 10 ∨ p = 11 ∨ p = 12 := by omega
  have z : ∀ q, 4 ≤ q → q < p → err r q = 0 := hz
  unfold errs
  rcases hc with rfl | rfl | rfl | rfl | rfl | rfl | rfl | rfl | rfl
  · simp [firstNZ, hp]
  · simp [firstNZ, hp, z 4 (by omega) (by omega)]
  · simp [firstNZ, hp, z 4 (by omega) (by omega), z 5 (by omega) (by omega)]
  · simp [firstNZ, hp, z 4 (by omega) (by omega), z 5 (by omega) (by omega), z 6 (by omega) (by omega)]
  · simp [firstNZ, hp, z 4 (by omega) (by omega), z 5 (by omega) (by omega), z 6 (by omega) (by omega), z 7 (by omega) (by omega)]
  · simp [firstNZ, hp, z 4 (by omega) (by omega), z 5 (by omega) (by omega), z 6 (by omega) (by omega), z 7 (by omega) (by omega), z 8 (by omega) (by omega)]
  · simp [firstNZ, hp, z 4 (by omega) (by omega), z 5 (by omega) (by omega), z 6 (by omega) (by omega), z 7 (by omega) (by omega), z 8 (by omega) (by omega), z 9 (by omega) (by omega)]
  · simp [firstNZ, hp, z 4 (by omega) (by omega), z 5 (by omega) (by omega), z 6 (by omega) (by omega), z 7 (by omega) (by omega), z 8 (by omega) (by omega), z 9 (by omega) (by omega), z 10 (by omega) (by omega)]
  · simp [firstNZ, hp, z 4 (by omega) (by omega), z 5 (by omega) (by omega), z 6 (by omega) (by omega), z 7 (by omega) (by omega), z 8 (by omega) (by omega), z 9 (by omega) (by omega), z 10 (by omega) (by omega), z 11 (by omega) (by omega)]
theorem errs_zero {r : R} (hz : ∀ q, 4 ≤ q → q < 13 → err r q = 0) : errs r = 0 := by
  unfold errs
  simp [firstNZ, hz 4 (by omega) (by omega), hz 5 (by omega) (by omega), hz 6 (by omega) (by omega), hz 7 (by omega) (by omega), hz 8 (by omega) (by omega), hz 9 (by omega) (by omega), hz 10 (by omega) (by omega), hz 11 (by omega) (by omega), hz 12 (by omega) (by omega)]
theorem take_nodup {α : Type} {l : List α} {k : Nat} (hk : k < l.length) (h : (l.take k).Nodup) : (l.take (k + 1)).Nodup ↔ l[k] ∉ l.take k := by
  rw [List.take_succ_eq_append_getElem hk, List.nodup_append]
  constructor
  · intro hh hm
    exact hh.2.2 _ hm _ (List.mem_singleton.2 rfl) rfl
  · intro hm
    refine ⟨h, by simp, fun a ha b hb e => ?_⟩
    rw [List.mem_singleton] at hb
    subst hb; subst e
    exact hm ha
theorem nodup_take {α : Type} {l : List α} (k : Nat) (h : l.Nodup) : (l.take k).Nodup := h.sublist (List.take_sublist k l)
theorem any_take {α : Type} {p : α → Bool} {l : List α} {k : Nat} (hk : k < l.length) : (l.take (k + 1)).any p = ((l.take k).any p || p l[k]) := by
  rw [List.take_succ_eq_append_getElem hk, List.any_append]; simp
theorem any_of {α : Type} {p : α → Bool} {l : List α} {k : Nat} (hk : k < l.length) (h : p l[k] = true) : l.any p = true := List.any_eq_true.2 ⟨_, List.getElem_mem hk, h⟩
end Go.Proofs.Ytndicgfafdhieaa.Ru
