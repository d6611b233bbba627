/- The plain arithmetic of days: no program. -/
namespace Go.Proofs.YtkbohijlhhpfbaaGreatDoor.Civ
def isYear (y : Int) : Bool := decide (1 ≤ y) && decide (y ≤ 9999)
def leap (y : Int) : Bool := isYear y && (decide (y % 4 = 0) && (!decide (y % 100 = 0) || decide (y % 400 = 0)))
def days (y : Int) : Int := if isYear y then (if leap y then 366 else 365) else 0
def cum (m : Int) : Int := if m ≤ 1 then 0 else if m ≤ 2 then 31 else if m ≤ 3 then 59 else if m ≤ 4 then 90 else if m ≤ 5 then 120 else if m ≤ 6 then 151 else if m ≤ 7 then 181 else if m ≤ 8 then 212 else if m ≤ 9 then 243 else if m ≤ 10 then 273 else if m ≤ 11 then 304 else if m ≤ 12 then 334 else 365
def til (y m : Int) : Int := cum m + (if 2 < m ∧ leap y = true then 1 else 0)
def len (y m : Int) : Int := if isYear y = true ∧ 1 ≤ m ∧ m ≤ 12 then til y (m + 1) - til y m else 0
def ahead (y : Int) : Int := (y - 1) * 365 + (y - 1) / 4 - (y - 1) / 100 + (y - 1) / 400
def day (y m d : Int) : Int := if d < 1 ∨ len y m < d then 0 else ahead y + til y m + d - 1
def dayE (y m d : Int) : Int := if d < 1 ∨ len y m < d then 8 else 0
def cent (n : Int) : Int := if n % 146097 / 36524 ≤ 3 then n % 146097 / 36524 else 3
def rest1 (n : Int) : Int := n % 146097 - cent n * 36524
def olym (n : Int) : Int := rest1 n / 1461
def rest2 (n : Int) : Int := rest1 n % 1461
def yr (n : Int) : Int := if rest2 n / 365 ≤ 3 then rest2 n / 365 else 3
def splitY (n : Int) : Int := 1 + n / 146097 * 400 + 100 * cent n + 4 * olym n + yr n
def splitA (n : Int) : Int := rest2 n - yr n * 365
def isDay (n : Int) : Bool := decide (0 ≤ n) && decide (n ≤ 3652058)
def weekday (n : Int) : Int := if isDay n = true then n % 7 else -1
def place (n : Int) : Int := if isDay n = true then splitA n + 1 else 0
def month (y a : Int) : Int := if til y (a / 32 + 1 + 1) ≤ a then a / 32 + 1 + 1 else a / 32 + 1
def dateY (n : Int) : Int := if isDay n = true then splitY n else 0
def dateM (n : Int) : Int := if isDay n = true then month (splitY n) (splitA n) else 0
def dateD (n : Int) : Int := if isDay n = true then splitA n - til (splitY n) (month (splitY n) (splitA n)) + 1 else 0
def dateE (n : Int) : Int := if isDay n = true then 0 else 8
theorem cum_lo (m : Int) : 0 ≤ cum m := by unfold cum; repeat' split <;> omega
theorem cum_hi (m : Int) : cum m ≤ 365 := by unfold cum; repeat' split <;> omega
theorem isYear_iff (y : Int) : isYear y = true ↔ 1 ≤ y ∧ y ≤ 9999 := by simp [isYear]
theorem isDay_iff (n : Int) : isDay n = true ↔ 0 ≤ n ∧ n ≤ 3652058 := by simp [isDay]
theorem til_bd (y m : Int) : 0 ≤ til y m ∧ til y m ≤ 366 := by
 have c1 := cum_lo m
 have c2 := cum_hi m
 unfold til; split <;> omega
theorem month_cases {m : Int} (h1 : 1 ≤ m) (h2 : m ≤ 12) : m = 1 ∨ m = 2 ∨ m = 3 ∨ m = 4 ∨ m = 5 ∨ m = 6 ∨ m = 7 ∨ m = 8 ∨ m = 9 ∨ m = 10 ∨ m = 11 ∨ m = 12 := by omega
theorem len_eq {y m : Int} (hy : isYear y = true) (h1 : 1 ≤ m) (h2 : m ≤ 12) : len y m = if m = 2 then (if leap y = true then 29 else 28) else if m = 4 ∨ m = 6 ∨ m = 9 ∨ m = 11 then 30 else 31 := by
 rcases month_cases h1 h2 with rfl | rfl | rfl | rfl | rfl | rfl | rfl | rfl | rfl | rfl | rfl | rfl <;> cases hl : leap y <;> simp [len, hy, til, cum, hl]
theorem len_bd (y m : Int) : 0 ≤ len y m ∧ len y m ≤ 31 := by
 by_cases h : isYear y = true ∧ 1 ≤ m ∧ m ≤ 12
 ·rw [len_eq h.1 h.2.1 h.2.2]; repeat' split <;> omega
 ·unfold len; rw [if_neg h]; omega
theorem len_pos {y m : Int} (h : 0 < len y m) : 1 ≤ y ∧ y ≤ 9999 ∧ 1 ≤ m ∧ m ≤ 12 := by
 unfold len at h
 split at h
 ·next hh => exact ⟨((isYear_iff y).1 hh.1).1, ((isYear_iff y).1 hh.1).2, hh.2⟩
 ·omega
theorem len_ge {y m : Int} (h1 : 1 ≤ y) (h2 : y ≤ 9999) (h3 : 1 ≤ m) (h4 : m ≤ 12) : 28 ≤ len y m := by
 rw [len_eq ((isYear_iff y).2 ⟨h1, h2⟩) h3 h4]; repeat' split <;> omega
def one (y : Int) : Int := if leap y = true then 1 else 0
theorem one_bd (y : Int) : 0 ≤ one y ∧ one y ≤ 1 := by unfold one; split <;> omega
theorem leap_iff {y : Int} (h1 : 1 ≤ y) (h2 : y ≤ 9999) : leap y = true ↔ y % 4 = 0 ∧ (y % 100 ≠ 0 ∨ y % 400 = 0) := by
 have := (isYear_iff y).2 ⟨h1, h2⟩
 simp [leap, this]
theorem one_eq {y : Int} (h1 : 1 ≤ y) (h2 : y ≤ 9999) : one y = if y % 4 = 0 ∧ (y % 100 ≠ 0 ∨ y % 400 = 0) then 1 else 0 := by
 unfold one
 have := leap_iff h1 h2
 by_cases hl : leap y = true
 ·rw [if_pos hl, if_pos (this.1 hl)]
 ·rw [if_neg hl, if_neg (fun h => hl (this.2 h))]
theorem til_one (y m : Int) : til y m = cum m + if 2 < m then one y else 0 := by
 unfold til one
 by_cases h : 2 < m <;> cases hl : leap y <;> simp [h]
theorem til_succ {y m : Int} (hy : isYear y = true) (h1 : 1 ≤ m) (h2 : m ≤ 12) : til y (m + 1) = til y m + len y m := by
 unfold len; rw [if_pos ⟨hy, h1, h2⟩]; omega
theorem til_first (y : Int) : til y 1 = 0 := by simp [til, cum]
theorem til_13 (y : Int) : til y 13 = 365 + one y := by rw [til_one]; simp [cum]
theorem days_eq {y : Int} (h1 : 1 ≤ y) (h2 : y ≤ 9999) : days y = 365 + one y := by
 unfold days one
 rw [if_pos ((isYear_iff y).2 ⟨h1, h2⟩)]; split <;> rfl
theorem ahead_succ {y : Int} (h1 : 1 ≤ y) (h2 : y ≤ 9999) : ahead (y + 1) = ahead y + 365 + one y := by
 rw [one_eq h1 h2]; unfold ahead; split <;> omega
theorem ahead_mono' (y : Int) (k : Nat) : ahead y + 365 * k ≤ ahead (y + k) := by
 induction k with
 | zero => simp
 | succ k ih =>
  have : ahead (y + k) + 365 ≤ ahead (y + k + 1) := by unfold ahead; omega
  have e : y + ((k + 1 : Nat) : Int) = y + k + 1 := by omega
  rw [e]; omega
theorem ahead_mono {y z : Int} (h : y ≤ z) : ahead y + 365 * (z - y) ≤ ahead z := by
 have := ahead_mono' y (z - y).toNat
 have e : y + (((z - y).toNat : Nat) : Int) = z := by omega
 rw [e] at this; omega
theorem year_unique {n y z : Int} (h1 : ahead y ≤ n) (h2 : n < ahead (y + 1)) (h3 : ahead z ≤ n) (h4 : n < ahead (z + 1)) : y = z := by
 by_cases h : y < z
 ·have := ahead_mono (y := y + 1) (z := z) (by omega); omega
 ·by_cases h' : z < y
  ·have := ahead_mono (y := z + 1) (z := y) (by omega); omega
  ·omega
theorem ahead_parts {a c q k : Int} (c1 : 0 ≤ c) (c2 : c ≤ 3) (q1 : 0 ≤ q) (q2 : q ≤ 24) (k1 : 0 ≤ k) (k2 : k ≤ 3) : ahead (1 + a * 400 + 100 * c + 4 * q + k) = 146097 * a + 36524 * c + 1461 * q + 365 * k := by
 have e0 : 1 + a * 400 + 100 * c + 4 * q + k - 1 = a * 400 + 100 * c + 4 * q + k := by omega
 have e1 : (a * 400 + 100 * c + 4 * q + k) / 4 = 100 * a + 25 * c + q := by omega
 have e2 : (a * 400 + 100 * c + 4 * q + k) / 100 = 4 * a + c := by omega
 have e3 : (a * 400 + 100 * c + 4 * q + k) / 400 = a := by omega
 unfold ahead
 rw [e0, e1, e2, e3]
 omega
theorem leap_parts {a c q k : Int} (q1 : 0 ≤ q) (q2 : q ≤ 24) (hk : k = 3) (h : q = 24 → c = 3) : (1 + a * 400 + 100 * c + 4 * q + k) % 4 = 0 ∧ ((1 + a * 400 + 100 * c + 4 * q + k) % 100 ≠ 0 ∨ (1 + a * 400 + 100 * c + 4 * q + k) % 400 = 0) := by
 subst hk
 refine ⟨by omega, ?_⟩
 by_cases hq : q = 24
 ·have := h hq
  subst hq; subst this
  right; omega
 ·left; omega
theorem split_spec {n : Int} (h1 : 0 ≤ n) (h2 : n ≤ 3652058) : 1 ≤ splitY n ∧ splitY n ≤ 9999 ∧ 0 ≤ splitA n ∧ splitA n < 365 + one (splitY n) ∧ ahead (splitY n) + splitA n = n := by
 obtain ⟨a, ha⟩ : ∃ a, a = n / 146097 := ⟨_, rfl⟩
 obtain ⟨u, hu⟩ : ∃ u, u = n % 146097 := ⟨_, rfl⟩
 have hc : cent n = if u / 36524 ≤ 3 then u / 36524 else 3 := by unfold cent; rw [hu]
 obtain ⟨c, hcc⟩ : ∃ c, c = cent n := ⟨_, rfl⟩
 have hr1 : rest1 n = u - c * 36524 := by unfold rest1; rw [hu, hcc]
 obtain ⟨v, hv⟩ : ∃ v, v = rest1 n := ⟨_, rfl⟩
 obtain ⟨q, hq⟩ : ∃ q, q = v / 1461 := ⟨_, rfl⟩
 obtain ⟨x, hx⟩ : ∃ x, x = v % 1461 := ⟨_, rfl⟩
 have hol : olym n = q := by unfold olym; rw [hq, hv]
 have hr2 : rest2 n = x := by unfold rest2; rw [hx, hv]
 obtain ⟨k, hk⟩ : ∃ k, k = yr n := ⟨_, rfl⟩
 have hkk : k = if x / 365 ≤ 3 then x / 365 else 3 := by rw [hk]; unfold yr; rw [hr2]
 have hY : splitY n = 1 + a * 400 + 100 * c + 4 * q + k := by unfold splitY; rw [hol, ← hk, ← hcc, ha]
 have hA : splitA n = x - k * 365 := by unfold splitA; rw [hr2, ← hk]
 have a1 : 0 ≤ a ∧ a ≤ 24 := by omega
 have u1 : 0 ≤ u ∧ u < 146097 ∧ n = 146097 * a + u := by omega
 have c1 : 0 ≤ c ∧ c ≤ 3 ∧ 0 ≤ u - c * 36524 ∧ (u - c * 36524 < 36524 ∨ c = 3 ∧ u - c * 36524 = 36524) := by
  rw [hcc, hc]; split <;> omega
 have v1 : 0 ≤ v ∧ (v < 36524 ∨ c = 3 ∧ v = 36524) ∧ u = v + c * 36524 := by omega
 have q1 : 0 ≤ q ∧ q ≤ 24 ∧ v = 1461 * q + x ∧ 0 ≤ x ∧ x < 1461 := by omega
 have k1 : 0 ≤ k ∧ k ≤ 3 ∧ 0 ≤ x - k * 365 ∧ (x - k * 365 < 365 ∨ k = 3 ∧ x - k * 365 = 365) := by
  rw [hkk]; split <;> omega
 have hy2 : splitY n ≤ 9999 := by rw [hY]; omega
 have hy1 : 1 ≤ splitY n := by rw [hY]; omega
 have hah : ahead (splitY n) = 146097 * a + 36524 * c + 1461 * q + 365 * k := by rw [hY]; exact ahead_parts c1.1 c1.2.1 q1.1 q1.2.1 k1.1 k1.2.1
 obtain ⟨u2, u3, u4⟩ := u1
 obtain ⟨v2, v3, v4⟩ := v1
 obtain ⟨q2, q3, q4, q5, q6⟩ := q1
 have hsum : ahead (splitY n) + splitA n = n := by
  rw [hah, hA]
  clear hah hA hY hy1 hy2 hkk hk hr2 hol hx hq hv hr1 hcc hc hu ha c1 k1 v3 q2 q3 q5 q6 u2 u3
  omega
 refine ⟨hy1, hy2, by rw [hA]; exact k1.2.2.1, ?_, hsum⟩
 rw [one_eq hy1 hy2, hA]
 split
 ·have := k1.2.2.2
  clear hah hA hY hy1 hy2 hkk hk hr2 hol hx hq hv hr1 hcc hc hu ha hsum
  omega
 ·next hn =>
  rcases k1.2.2.2 with hl | ⟨k3, k4⟩
  ·exact hl
  ·exfalso
   apply hn
   rw [hY]
   exact leap_parts q2 q3 k3 (by clear hah hA hY hy1 hy2 hkk hk hr2 hol hx hq hv hr1 hcc hc hu ha hsum; omega)
theorem month_spec {y a : Int} (h3 : 0 ≤ a) (h4 : a < 365 + one y) : 1 ≤ month y a ∧ month y a ≤ 12 ∧ til y (month y a) ≤ a ∧ a < til y (month y a + 1) := by
 have o := one_bd y
 obtain ⟨k, hk⟩ : ∃ k, k = a / 32 := ⟨_, rfl⟩
 have hk1 : k = 0 ∨ k = 1 ∨ k = 2 ∨ k = 3 ∨ k = 4 ∨ k = 5 ∨ k = 6 ∨ k = 7 ∨ k = 8 ∨ k = 9 ∨ k = 10 ∨ k = 11 := by omega
 have hb : 32 * k ≤ a ∧ a < 32 * k + 32 := by omega
 have c1 : cum 1 = 0 := by decide
 have c2 : cum 2 = 31 := by decide
 have c3 : cum 3 = 59 := by decide
 have c4 : cum 4 = 90 := by decide
 have c5 : cum 5 = 120 := by decide
 have c6 : cum 6 = 151 := by decide
 have c7 : cum 7 = 181 := by decide
 have c8 : cum 8 = 212 := by decide
 have c9 : cum 9 = 243 := by decide
 have c10 : cum 10 = 273 := by decide
 have c11 : cum 11 = 304 := by decide
 have c12 : cum 12 = 334 := by decide
 have c13 : cum 13 = 365 := by decide
 have c14 : cum 14 = 365 := by decide
 unfold month
 rw [← hk]
 clear hk
 generalize hg : one y = g at *
 have ht : ∀ m, til y m = cum m + if 2 < m then g else 0 := fun m => by rw [til_one, hg]
 clear hg
 rcases hk1 with rfl | rfl | rfl | rfl | rfl | rfl | rfl | rfl | rfl | rfl | rfl | rfl
 all_goals
  split
  all_goals
   next hh =>
    simp only [ht, Int.reduceAdd, Int.reduceLT, if_true, if_false, c1, c2, c3, c4, c5, c6, c7, c8, c9, c10, c11, c12, c13, c14] at hh ⊢
    omega
theorem til_mono {y m k : Int} (hy : isYear y = true) (h1 : 1 ≤ m) (h2 : m ≤ k) (h3 : k ≤ 13) : til y m ≤ til y k := by
 obtain ⟨j, hj⟩ : ∃ j : Nat, k = m + j := ⟨(k - m).toNat, by omega⟩
 subst hj
 clear h2
 induction j with
 | zero => simp
 | succ j ih =>
  have := til_succ (y := y) (m := m + j) hy (by omega) (by omega)
  have := len_bd y (m + j)
  have := ih (by omega)
  have e : m + ((j + 1 : Nat) : Int) = m + j + 1 := by omega
  rw [e]; omega
theorem month_unique {y a m k : Int} (hy : isYear y = true) (m1 : 1 ≤ m) (m2 : m ≤ 12) (k1 : 1 ≤ k) (k2 : k ≤ 12) (h1 : til y m ≤ a) (h2 : a < til y (m + 1)) (h3 : til y k ≤ a) (h4 : a < til y (k + 1)) : m = k := by
 by_cases h : m < k
 ·have := til_mono (y := y) (m := m + 1) (k := k) hy (by omega) (by omega) (by omega); omega
 ·by_cases h' : k < m
  ·have := til_mono (y := y) (m := k + 1) (k := m) hy (by omega) (by omega) (by omega); omega
  ·omega
theorem date_spec {n : Int} (h1 : 0 ≤ n) (h2 : n ≤ 3652058) : 1 ≤ dateY n ∧ dateY n ≤ 9999 ∧ 1 ≤ dateM n ∧ dateM n ≤ 12 ∧ 1 ≤ dateD n ∧ dateD n ≤ len (dateY n) (dateM n) ∧ ahead (dateY n) + til (dateY n) (dateM n) + dateD n - 1 = n := by
 have hd := (isDay_iff n).2 ⟨h1, h2⟩
 obtain ⟨s1, s2, s3, s4, s5⟩ := split_spec h1 h2
 obtain ⟨m1, m2, m3, m4⟩ := month_spec s3 s4
 have hl := til_succ ((isYear_iff _).2 ⟨s1, s2⟩) m1 m2
 unfold dateY dateM dateD
 simp only [hd, if_true]
 exact ⟨s1, s2, m1, m2, by omega, by omega, by omega⟩
theorem date_of {y m d : Int} (h1 : 1 ≤ y) (h2 : y ≤ 9999) (h3 : 1 ≤ m) (h4 : m ≤ 12) (h5 : 1 ≤ d) (h6 : d ≤ len y m) : 0 ≤ ahead y + til y m + d - 1 ∧ ahead y + til y m + d - 1 ≤ 3652058 ∧ ahead y ≤ ahead y + til y m + d - 1 ∧ ahead y + til y m + d - 1 < ahead (y + 1) := by
 have hy := (isYear_iff _).2 ⟨h1, h2⟩
 have t0 := til_bd y m
 have t1 := til_succ hy h3 h4
 have t2 := til_mono (y := y) (m := m + 1) (k := 13) hy (by omega) (by omega) (by omega)
 have t3 := til_13 y
 have a1 := ahead_succ h1 h2
 have a0 := ahead_mono (y := 1) (z := y) h1
 have a2 := ahead_mono (y := y + 1) (z := 10000) (by omega)
 have e1 : ahead 1 = 0 := by decide
 have e2 : ahead 10000 = 3652059 := by decide
 omega
theorem date_unique {n y m d : Int} (h1 : 1 ≤ y) (h2 : y ≤ 9999) (h3 : 1 ≤ m) (h4 : m ≤ 12) (h5 : 1 ≤ d) (h6 : d ≤ len y m) (hn : ahead y + til y m + d - 1 = n) : dateY n = y ∧ dateM n = m ∧ dateD n = d := by
 have b := date_of h1 h2 h3 h4 h5 h6
 rw [hn] at b
 obtain ⟨y1, y2, m1, m2, d1, d2, e⟩ := date_spec b.1 b.2.1
 have b' := date_of y1 y2 m1 m2 d1 d2
 rw [e] at b'
 have hy := year_unique b.2.2.1 b.2.2.2 b'.2.2.1 b'.2.2.2
 generalize dateY n = z at *
 subst hy
 have yy := (isYear_iff _).2 ⟨h1, h2⟩
 have t1 := til_succ yy h3 h4
 have t2 := til_succ yy m1 m2
 have hm := month_unique (a := n - ahead y) yy h3 h4 m1 m2 (by omega) (by omega) (by omega) (by omega)
 generalize dateM n = k at *
 subst hm
 exact ⟨rfl, rfl, by omega⟩
theorem day_of {y m d : Int} (h5 : 1 ≤ d) (h6 : d ≤ len y m) : day y m d = ahead y + til y m + d - 1 ∧ dayE y m d = 0 := by
 unfold day dayE; rw [if_neg (by omega), if_neg (by omega)]; exact ⟨rfl, rfl⟩
theorem dateE_of {n : Int} (h1 : 0 ≤ n) (h2 : n ≤ 3652058) : dateE n = 0 := by
 unfold dateE; rw [if_pos ((isDay_iff n).2 ⟨h1, h2⟩)]
theorem weekday_of {n : Int} (h1 : 0 ≤ n) (h2 : n ≤ 3652058) : weekday n = n % 7 := by
 unfold weekday; rw [if_pos ((isDay_iff n).2 ⟨h1, h2⟩)]
theorem place_of {n : Int} (h1 : 0 ≤ n) (h2 : n ≤ 3652058) : place n = n - ahead (dateY n) + 1 := by
 have hd := (isDay_iff n).2 ⟨h1, h2⟩
 have := split_spec h1 h2
 unfold place dateY
 rw [if_pos hd, if_pos hd]; omega
theorem place_bd {n : Int} (h1 : 0 ≤ n) (h2 : n ≤ 3652058) : 1 ≤ place n ∧ place n ≤ 366 := by
 have hd := (isDay_iff n).2 ⟨h1, h2⟩
 have := split_spec h1 h2
 have := one_bd (splitY n)
 unfold place
 rw [if_pos hd]; omega
theorem next_day {n : Int} (h1 : 0 ≤ n) (h2 : n < 3652058) :
  dateD n < len (dateY n) (dateM n) ∧ dateY (n + 1) = dateY n ∧ dateM (n + 1) = dateM n ∧ dateD (n + 1) = dateD n + 1
  ∨ dateD n = len (dateY n) (dateM n) ∧ dateM n < 12 ∧ dateY (n + 1) = dateY n ∧ dateM (n + 1) = dateM n + 1 ∧ dateD (n + 1) = 1
  ∨ dateD n = len (dateY n) (dateM n) ∧ dateM n = 12 ∧ dateD n = 31 ∧ dateY (n + 1) = dateY n + 1 ∧ dateM (n + 1) = 1 ∧ dateD (n + 1) = 1 := by
 obtain ⟨y1, y2, m1, m2, d1, d2, de⟩ := date_spec h1 (by omega : n ≤ 3652058)
 generalize dateY n = Y at *
 generalize dateM n = M at *
 generalize dateD n = D at *
 have hy := (isYear_iff Y).2 ⟨y1, y2⟩
 have ht := til_succ hy m1 m2
 by_cases hd : D < len Y M
 ·exact .inl ⟨hd, date_unique y1 y2 m1 m2 (by omega) (by omega) (by omega)⟩
 ·by_cases hm : M < 12
  ·have := len_ge y1 y2 (by omega : 1 ≤ M + 1) (by omega)
   exact .inr (.inl ⟨by omega, hm, date_unique y1 y2 (by omega) (by omega) (by omega) (by omega) (by omega)⟩)
  ·obtain rfl : M = 12 := by omega
   have hl : len Y 12 = 31 := by rw [len_eq hy (by omega) (by omega)]; simp
   have a1 := ahead_succ y1 y2
   have t13 := til_13 Y
   have e13 : til Y (12 + 1) = til Y 13 := rfl
   have hY : Y < 9999 := by
    by_cases hh : Y = 9999
    ·subst hh
     have e1 : ahead 9999 = 3651694 := by decide
     have e2 : til 9999 12 = 334 := by decide
     omega
    ·omega
   have := len_ge (y := Y + 1) (by omega) (by omega) (by omega : (1 : Int) ≤ 1) (by omega)
   have t1 := til_first (Y + 1)
   exact .inr (.inr ⟨by omega, rfl, by omega, date_unique (by omega) (by omega) (by omega) (by omega) (by omega) (by omega) (by omega)⟩)
end Go.Proofs.YtkbohijlhhpfbaaGreatDoor.Civ
/- What moment's functions compute, in plain lists of bytes and integers. -/
namespace Go.Proofs.YtkbohijlhhpfbaaGreatDoor.Mo
def why (k s : Int) : Int := if k < 1 ∨ 3 < k then 11 else if s < 0 ∨ 315537897599 < s then 8 else 0
def secOf (k s : Int) : Int := if k = 1 then s - s % 86400 else s
def chk (k s : Int) : Int := if why k s ≠ 0 then why k s else if secOf k s = s then 0 else 2
def dig (c : UInt8) : Bool := decide (48 ≤ c.toNat) && decide (c.toNat ≤ 57)
def dv (c : UInt8) : Int := (c.toNat : Int) - 48
def num (n : Int) (l : List UInt8) : Int := l.foldl (fun n c => n * 10 + dv c) n
def fields : List Nat → List UInt8 → Option (List Int)
 | [], l => if l = [] then some [] else none
 | w :: ws, l => if (l.take w).length = w ∧ (l.take w).all dig = true then (fields ws (l.drop w)).map (num 0 (l.take w) :: ·) else none
def mk (k y m d h i s : Int) : Int × Int × Int :=
 if Civ.dayE y m d ≠ 0 ∨ 23 < h ∨ 59 < i ∨ 59 < s then (0, 0, 8) else (k, Civ.day y m d * 86400 + (h * 60 + i) * 60 + s, 0)
def two (k : Int) : Option (List Int) → Option (List Int) → Int × Int × Int
 | some [y, m, d], some [h, i, s] => mk k y m d h i s
 | _, _ => (0, 0, 4)
def wid : Nat → Int → List UInt8
 | 0, _ => []
 | w + 1, n => wid w (n / 10) ++ [UInt8.ofNat (48 + n % 10).toNat]
def text (k s : Int) : List UInt8 :=
 wid 4 (Civ.dateY (s / 86400)) ++ wid 2 (Civ.dateM (s / 86400)) ++ wid 2 (Civ.dateD (s / 86400)) ++
  ((if k = 1 then [] else [84] ++ wid 2 (s % 86400 / 3600) ++ wid 2 (s % 86400 / 60 % 60) ++ wid 2 (s % 86400 % 60)) ++ (if k = 3 then [90] else []))
end Go.Proofs.YtkbohijlhhpfbaaGreatDoor.Mo
/- What makes a rule sound, in plain lists and integers. -/
namespace Go.Proofs.YtkbohijlhhpfbaaGreatDoor.Ru
structure R where
 freq : Int
 interval : Int
 count : Int
 uk : Int
 us : Int
 sec : List Int
 min : List Int
 hour : List Int
 day : List (Int × Int)
 mday : List Int
 yday : List Int
 weekno : List Int
 month : List Int
 setpos : List Int
 wkst : Int
def lst (r : R) (q : Nat) : List Int :=
 if q = 4 then r.sec else if q = 5 then r.min else if q = 6 then r.hour else if q = 8 then r.mday else if q = 9 then r.yday else if q = 10 then r.weekno else if q = 11 then r.month else r.setpos
def lo (q : Nat) : Int := if q ≤ 6 then 0 else 1
def hi (q : Nat) : Int := if q ≤ 5 then 59 else if q = 6 then 23 else if q = 8 then 31 else if q = 10 then 53 else if q = 11 then 12 else 366
def sg (q : Nat) : Bool := decide (q = 8) || decide (q = 9) || decide (q = 10) || decide (q = 12)
def absI (n : Int) : Int := if n < 0 then -n else n
def bad (a b : Int) (s : Bool) (n : Int) : Bool := decide (n < -b) || (decide (absI n < a) || (decide (b < absI n) || (decide (n < 0) && !s)))
def wrong {α : Type} [DecidableEq α] (p : α → Bool) (l : List α) : Int := if 12 < l.length then 20 else if l.any p = true then 8 else if l.Nodup then 0 else 19
def badDay (d : Int × Int) : Bool := decide (d.2 < 0) || (decide (6 < d.2) || (decide (d.1 < -53) || decide (53 < d.1)))
def err (r : R) (q : Nat) : Int := if q = 7 then wrong badDay r.day else wrong (bad (lo q) (hi q) (sg q)) (lst r q)
def firstNZ : List Int → Int
 | [] => 0
 | x :: l => if x = 0 then firstNZ l else x
def errs (r : R) : Int := firstNZ [err r 4, err r 5, err r 6, err r 7, err r 8, err r 9, err r 10, err r 11, err r 12]
def head (r : R) : Int :=
 if 6 < r.freq then 11 else if r.interval < 1 ∨ 1000 < r.interval ∨ r.count < 0 ∨ 1000 < r.count ∨ r.wkst < 0 ∨ 6 < r.wkst then 8
 else if r.uk = 0 ∧ r.us = 0 then 0 else if r.uk = 0 then 2 else if Mo.chk r.uk r.us ≠ 0 then Mo.chk r.uk r.us else if 0 < r.count then 9 else 0
def numbered (l : List (Int × Int)) : Bool := l.any fun d => !decide (d.1 = 0)
def others (r : R) : Int := r.day.length + r.sec.length + r.min.length + r.hour.length + r.mday.length + r.yday.length + r.weekno.length + r.month.length
def fits (r : R) : Bool :=
 !(numbered r.day && (decide (r.freq < 5) || decide (0 < r.weekno.length))) && (!(decide (0 < r.mday.length) && decide (r.freq = 4)) && (!(decide (0 < r.weekno.length) && !decide (r.freq = 6)) &&
  (!(decide (0 < r.yday.length) && (decide (r.freq = 3) || (decide (r.freq = 4) || decide (r.freq = 5)))) && (decide (r.setpos.length = 0) || decide (0 < others r)))))
def chkR (r : R) : Int := if head r ≠ 0 then head r else if errs r ≠ 0 then errs r else if fits r = true then 0 else 9
theorem errs_first {r : R} {p : Nat} (h4 : 4 ≤ p) (h12 : p ≤ 12) (hz : ∀ q, 4 ≤ q → q < p → err r q = 0) (hp : err r p ≠ 0) : errs r = err r p := by
 have hc : p = 4 ∨ p = 5 ∨ p = 6 ∨ p = 7 ∨ p = 8 ∨ p = 9 ∨ p = 10 ∨ p = 11 ∨ p = 12 := by omega
 have z : ∀ q, 4 ≤ q → q < p → err r q = 0 := hz
 unfold errs
 rcases hc with rfl | rfl | rfl | rfl | rfl | rfl | rfl | rfl | rfl
 ·simp [firstNZ, hp]
 ·simp [firstNZ, hp, z 4 (by omega) (by omega)]
 ·simp [firstNZ, hp, z 4 (by omega) (by omega), z 5 (by omega) (by omega)]
 ·simp [firstNZ, hp, z 4 (by omega) (by omega), z 5 (by omega) (by omega), z 6 (by omega) (by omega)]
 ·simp [firstNZ, hp, z 4 (by omega) (by omega), z 5 (by omega) (by omega), z 6 (by omega) (by omega), z 7 (by omega) (by omega)]
 ·simp [firstNZ, hp, z 4 (by omega) (by omega), z 5 (by omega) (by omega), z 6 (by omega) (by omega), z 7 (by omega) (by omega), z 8 (by omega) (by omega)]
 ·simp [firstNZ, hp, z 4 (by omega) (by omega), z 5 (by omega) (by omega), z 6 (by omega) (by omega), z 7 (by omega) (by omega), z 8 (by omega) (by omega), z 9 (by omega) (by omega)]
 ·simp [firstNZ, hp, z 4 (by omega) (by omega), z 5 (by omega) (by omega), z 6 (by omega) (by omega), z 7 (by omega) (by omega), z 8 (by omega) (by omega), z 9 (by omega) (by omega), z 10 (by omega) (by omega)]
 ·simp [firstNZ, hp, z 4 (by omega) (by omega), z 5 (by omega) (by omega), z 6 (by omega) (by omega), z 7 (by omega) (by omega), z 8 (by omega) (by omega), z 9 (by omega) (by omega), z 10 (by omega) (by omega), z 11 (by omega) (by omega)]
theorem errs_zero {r : R} (hz : ∀ q, 4 ≤ q → q < 13 → err r q = 0) : errs r = 0 := by
 unfold errs
 simp [firstNZ, hz 4 (by omega) (by omega), hz 5 (by omega) (by omega), hz 6 (by omega) (by omega), hz 7 (by omega) (by omega), hz 8 (by omega) (by omega), hz 9 (by omega) (by omega), hz 10 (by omega) (by omega), hz 11 (by omega) (by omega), hz 12 (by omega) (by omega)]
theorem take_nodup {α : Type} {l : List α} {k : Nat} (hk : k < l.length) (h : (l.take k).Nodup) : (l.take (k + 1)).Nodup ↔ l[k] ∉ l.take k := by
 rw [List.take_succ_eq_append_getElem hk, List.nodup_append]
 constructor
 ·intro hh hm
  exact hh.2.2 _ hm _ (List.mem_singleton.2 rfl) rfl
 ·intro hm
  refine ⟨h, by simp, fun a ha b hb e => ?_⟩
  rw [List.mem_singleton] at hb
  subst hb; subst e
  exact hm ha
theorem nodup_take {α : Type} {l : List α} (k : Nat) (h : l.Nodup) : (l.take k).Nodup := h.sublist (List.take_sublist k l)
theorem any_take {α : Type} {p : α → Bool} {l : List α} {k : Nat} (hk : k < l.length) : (l.take (k + 1)).any p = ((l.take k).any p || p l[k]) := by
 rw [List.take_succ_eq_append_getElem hk, List.any_append]; simp
theorem any_of {α : Type} {p : α → Bool} {l : List α} {k : Nat} (hk : k < l.length) (h : p l[k] = true) : l.any p = true := List.any_eq_true.2 ⟨_, List.getElem_mem hk, h⟩
end Go.Proofs.YtkbohijlhhpfbaaGreatDoor.Ru
/- The plain arithmetic of weeks: no program. -/
namespace Go.Proofs.YtkbohijlhhpfbaaGreatDoor.Wk
open Civ
def back (n w : Int) : Int := (n - w) % 7
def isStart (w : Int) : Bool := decide (0 ≤ w) && decide (w < 7)
def begin (n w : Int) : Int := if isStart w = true ∧ 0 ≤ n ∧ n ≤ 3652058 then n - back n w else 0
def fst (y w : Int) : Int := ahead y + 3 - back (ahead y + 3) w
def first (y w : Int) : Int := if isStart w = true ∧ 0 ≤ y ∧ y ≤ 10001 then fst y w else 0
def weeks (y w : Int) : Int := if isStart w = true ∧ 0 ≤ y ∧ y ≤ 10000 then (fst (y + 1) w - fst y w) / 7 else 0
def year (n w : Int) : Int := if n < fst (dateY n) w then dateY n - 1 else if fst (dateY n + 1) w ≤ n then dateY n + 1 else dateY n
def numY (n w : Int) : Int := if isStart w = true ∧ 0 ≤ n ∧ n ≤ 3652058 then year n w else 0
def numN (n w : Int) : Int := if isStart w = true ∧ 0 ≤ n ∧ n ≤ 3652058 then (n - fst (year n w) w) / 7 + 1 else 0
def backN (n w : Int) : Int := if numN n w = 0 then 0 else numN n w - 1 - weeks (numY n w) w
theorem isStart_iff (w : Int) : isStart w = true ↔ 0 ≤ w ∧ w < 7 := by simp [isStart]
theorem back_bd (n w : Int) : 0 ≤ back n w ∧ back n w < 7 := by unfold back; omega
theorem fst_bd (y w : Int) : ahead y - 3 ≤ fst y w ∧ fst y w ≤ ahead y + 3 := by
 have := back_bd (ahead y + 3) w
 unfold fst; omega
theorem fst_mod (y w : Int) : (fst y w - w) % 7 = 0 := by unfold fst back; omega
theorem ahead_0 : ahead 0 = -366 := by decide
theorem ahead_10002 : ahead 10002 = 3652059 + 366 + 365 := by decide
theorem ahead_rng {y : Int} (h1 : 0 ≤ y) (h2 : y ≤ 10002) : -366 ≤ ahead y ∧ ahead y ≤ 3652790 := by
 have a := ahead_mono (y := 0) (z := y) h1
 have b := ahead_mono (y := y) (z := 10002) h2
 have := ahead_0
 have := ahead_10002
 omega
theorem fst_mono {y z w : Int} (h : y < z) : fst y w < fst z w := by
 have a := ahead_mono (y := y) (z := z) (by omega)
 have := fst_bd y w
 have := fst_bd z w
 omega
theorem fst_mono_le {y z w : Int} (h : y ≤ z) : fst y w ≤ fst z w := by
 by_cases e : y = z
 ·subst e; omega
 ·have := fst_mono (w := w) (y := y) (z := z) (by omega); omega
theorem year_spec {n : Int} (w : Int) (h1 : 0 ≤ n) (h2 : n ≤ 3652058) : fst (year n w) w ≤ n ∧ n < fst (year n w + 1) w ∧ dateY n - 1 ≤ year n w ∧ year n w ≤ dateY n + 1 ∧ 0 ≤ year n w ∧ year n w ≤ 10000 := by
 obtain ⟨y1, y2, m1, m2, d1, d2, de⟩ := date_spec h1 h2
 have hb := date_of y1 y2 m1 m2 d1 d2
 rw [de] at hb
 generalize hY : dateY n = Y at *
 have e0 : fst (Y - 1) w ≤ n := by
  have := fst_bd (Y - 1) w
  have := ahead_mono (y := Y - 1) (z := Y) (by omega)
  omega
 have e3 : n < fst (Y + 1 + 1) w := by
  have := fst_bd (Y + 1 + 1) w
  have := ahead_mono (y := Y + 1) (z := Y + 1 + 1) (by omega)
  omega
 unfold year
 rw [hY]
 split
 ·have e : Y - 1 + 1 = Y := by omega
  rw [e]; exact ⟨e0, by assumption, by omega, by omega, by omega, by omega⟩
 ·split
  ·exact ⟨by assumption, e3, by omega, by omega, by omega, by omega⟩
  ·exact ⟨by omega, by omega, by omega, by omega, by omega, by omega⟩
theorem year_unique {n w y z : Int} (h1 : fst y w ≤ n) (h2 : n < fst (y + 1) w) (h3 : fst z w ≤ n) (h4 : n < fst (z + 1) w) : y = z := by
 by_cases h : y < z
 ·have := fst_mono_le (y := y + 1) (z := z) (w := w) (by omega); omega
 ·by_cases h' : z < y
  ·have := fst_mono_le (y := z + 1) (z := y) (w := w) (by omega); omega
  ·omega
end Go.Proofs.YtkbohijlhhpfbaaGreatDoor.Wk
/- Which days a rule lets pass, in plain lists and integers. -/
namespace Go.Proofs.YtkbohijlhhpfbaaGreatDoor.Dy
open Ru
structure F where
 day : Int
 month : Int
 date : Int
 weekday : Int
 inMonth : Int
 inYear : Int
 place : Int
 n0 : Int
 n1 : Int
 n2 : Int
 n3 : Int
def which (a : Int) : Int := a / 7 + 1
def about (n : Int) : F :=
 if Civ.isDay n = true then
  ⟨n, Civ.dateM n, Civ.dateD n, Civ.weekday n, Civ.len (Civ.dateY n) (Civ.dateM n), Civ.days (Civ.dateY n), Civ.place n,
   which (Civ.dateD n - 1), -which (Civ.len (Civ.dateY n) (Civ.dateM n) - Civ.dateD n), which (Civ.place n - 1), -which (Civ.days (Civ.dateY n) - Civ.place n)⟩
 else ⟨0, 0, 0, 0, 0, 0, 0, 0, 0, 0, 0⟩
def has (l : List Int) (a b : Int) : Bool := decide (l.length = 0) || (decide (a ∈ l) || decide (b ∈ l))
def ways (r : R) (f : F) : Int × Int := if r.freq = 5 ∨ 0 < r.month.length then (f.n0, f.n1) else (f.n2, f.n3)
def hit (f : F) (w : Int × Int) (d : Int × Int) : Bool := decide (d.2 = f.weekday) && (decide (d.1 = 0) || (decide (d.1 = w.1) || decide (d.1 = w.2)))
def onDay (r : R) (f : F) : Bool := decide (r.day.length = 0) || r.day.any (hit f (ways r f))
def likeStart (r : R) (s f : F) : Bool :=
 if r.freq < 4 ∨ 0 < r.yday.length + r.mday.length + r.day.length then true
 else if r.freq = 4 ∨ 0 < r.weekno.length then decide (f.weekday = s.weekday)
 else if r.freq = 5 ∨ 0 < r.month.length then decide (f.date = s.date)
 else decide (f.date = s.date) && decide (f.month = s.month)
def lets (r : R) (s f : F) : Bool :=
 (has r.month f.month f.month && (has r.yday f.place (f.place - f.inYear - 1) && has r.mday f.date (f.date - f.inMonth - 1))) &&
  ((decide (r.weekno.length = 0) || has r.weekno (Wk.numN f.day r.wkst) (Wk.backN f.day r.wkst)) && (onDay r f && likeStart r s f))
def passes (r : R) (start day : Int) : Bool :=
 Civ.isDay day && (Civ.isDay (start / 86400) && (decide (0 ≤ start) && (decide (chkR r = 0) && lets r (about (start / 86400)) (about day))))
def days (r : R) (start : Int) : Int → Nat → List Int
 | _, 0 => []
 | a, k + 1 => (if lets r (about (start / 86400)) (about a) = true then [a] else []) ++ days r start (a + 1) k
def daysOf (r : R) (start a b : Int) : List Int :=
 if a < 0 ∨ b < a ∨ 3652059 < b ∨ 366 < b - a ∨ start < 0 ∨ chkR r ≠ 0 ∨ Civ.isDay (start / 86400) = false then [] else days r start a (b - a).toNat
theorem days_snoc (r : R) (start : Int) : ∀ (k : Nat) (a : Int), days r start a (k + 1) = days r start a k ++ (if lets r (about (start / 86400)) (about (a + k)) = true then [a + (k : Int)] else [])
 | 0, a => by simp [days]
 | k + 1, a => by
  have ih := days_snoc r start k (a + 1)
  rw [show days r start a (k + 1 + 1) = (if lets r (about (start / 86400)) (about a) = true then [a] else []) ++ days r start (a + 1) (k + 1) from rfl, ih,
   show days r start a (k + 1) = (if lets r (about (start / 86400)) (about a) = true then [a] else []) ++ days r start (a + 1) k from rfl, List.append_assoc,
   show a + 1 + (k : Int) = a + ((k + 1 : Nat) : Int) by omega]
theorem days_le (r : R) (start : Int) : ∀ (k : Nat) (a : Int), (days r start a k).length ≤ k
 | 0, _ => by simp [days]
 | k + 1, a => by
  have ih := days_le r start k (a + 1)
  rw [show days r start a (k + 1) = (if lets r (about (start / 86400)) (about a) = true then [a] else []) ++ days r start (a + 1) k from rfl, List.length_append]
  split <;> simp <;> omega
theorem about_bd (n : Int) : 0 ≤ (about n).day ∧ (about n).day ≤ 3652058 ∧ 0 ≤ (about n).month ∧ (about n).month ≤ 12 ∧ 0 ≤ (about n).date ∧ (about n).date ≤ 31 ∧ 0 ≤ (about n).weekday ∧ (about n).weekday ≤ 6 ∧
  0 ≤ (about n).inMonth ∧ (about n).inMonth ≤ 31 ∧ 0 ≤ (about n).inYear ∧ (about n).inYear ≤ 366 ∧ 0 ≤ (about n).place ∧ (about n).place ≤ 366 := by
 unfold about
 by_cases h : Civ.isDay n = true
 ·rw [if_pos h]
  have hh := (Civ.isDay_iff n).1 h
  obtain ⟨a1, a2, b1, b2, c1, c2, _⟩ := Civ.date_spec hh.1 hh.2
  have hl := (Civ.len_bd (Civ.dateY n) (Civ.dateM n))
  have hw := Civ.weekday_of hh.1 hh.2
  have hp := Civ.place_bd hh.1 hh.2
  have hd := Civ.days_eq a1 a2
  have ho := Civ.one_bd (Civ.dateY n)
  simp only []
  omega
 ·rw [if_neg h]; simp
theorem about_in {n : Int} (h : Civ.isDay n = true) : (about n).date ≤ (about n).inMonth ∧ 1 ≤ (about n).date ∧ 1 ≤ (about n).place ∧ (about n).place ≤ (about n).inYear := by
 have hh := (Civ.isDay_iff n).1 h
 obtain ⟨a1, a2, b1, b2, c1, c2, e⟩ := Civ.date_spec hh.1 hh.2
 have hp := Civ.place_bd hh.1 hh.2
 have hp2 := Civ.place_of hh.1 hh.2
 have hd := Civ.days_eq a1 a2
 have o := Civ.date_of a1 a2 b1 b2 c1 c2
 have hs := Civ.ahead_succ a1 a2
 unfold about
 rw [if_pos h]
 simp only []
 omega
end Go.Proofs.YtkbohijlhhpfbaaGreatDoor.Dy
/- The plain arithmetic of periods: no program. -/
namespace Go.Proofs.YtkbohijlhhpfbaaGreatDoor.Pd
open Civ
def counts (f w : Int) : Bool := decide (f ≤ 6) && decide (0 ≤ w ∧ w ≤ 6)
def unit (f : Int) : Int := if f = 0 then 1 else if f = 1 then 60 else if f = 2 then 3600 else 86400
def num (f w s : Int) : Int :=
 if f ≤ 3 then s / unit f
 else if f = 4 then (s / 86400 - Wk.back (s / 86400) w - w) / 7 + 1
 else if f = 5 then dateY (s / 86400) * 12 + dateM (s / 86400) - 1
 else dateY (s / 86400)
def index (f w s : Int) : Int := if (counts f w = true ∧ 0 ≤ s ∧ s ≤ 315537897599) then num f w s else -1
def last (f w : Int) : Int := index f w 315537897599
def day0 (f w i : Int) : Int := if f = 4 then (i - 1) * 7 + w else if f = 5 then day (i / 12) (i % 12 + 1) 1 else day i 1 1
def day1 (f w i : Int) : Int := if f = 4 then (i - 1) * 7 + w + 7 else if f = 5 then day (i / 12) (i % 12 + 1) 1 + len (i / 12) (i % 12 + 1) else day i 1 1 + days i
def lo (d : Int) : Int := if 0 ≤ d then d * 86400 else 0
def hi (d : Int) : Int := if d ≤ 3652059 then d * 86400 else 315537897600
def frm (f w i : Int) : Int := if (counts f w = true ∧ index f w 0 ≤ i ∧ i ≤ last f w) then (if f ≤ 3 then i * unit f else lo (day0 f w i)) else 0
def to (f w i : Int) : Int := if (counts f w = true ∧ index f w 0 ≤ i ∧ i ≤ last f w) then (if f ≤ 3 then (i + 1) * unit f else hi (day1 f w i)) else 0
def step (first interval at_ : Int) : Int :=
 if interval < 1 ∨ 1000 < interval ∨ first < 0 ∨ 315537897600 < first ∨ at_ < 0 ∨ 315537897600 < at_ then -1
 else if at_ ≤ first then first
 else first + (at_ - first + interval - 1) / interval * interval
theorem counts_iff (f w : Int) : counts f w = true ↔ f ≤ 6 ∧ 0 ≤ w ∧ w ≤ 6 := by simp [counts]
theorem index_of {f w s : Int} (hc : counts f w = true) (h1 : 0 ≤ s) (h2 : s ≤ 315537897599) : index f w s = num f w s := by
 unfold index; rw [if_pos ⟨hc, h1, h2⟩]
theorem dateY_0 : dateY 0 = 1 := by decide
theorem dateM_0 : dateM 0 = 1 := by decide
theorem dateY_l : dateY 3652058 = 9999 := by decide
theorem dateM_l : dateM 3652058 = 12 := by decide
theorem idx_lo {f w : Int} (hc : counts f w = true) (f0 : 0 ≤ f) : index f w 0 = if f ≤ 3 then 0 else if f = 4 then (if w = 0 then 1 else 0) else if f = 5 then 12 else 1 := by
 obtain ⟨c1, c2, c3⟩ := (counts_iff f w).1 hc
 rw [index_of hc (by omega) (by omega)]
 have hf : f = 0 ∨ f = 1 ∨ f = 2 ∨ f = 3 ∨ f = 4 ∨ f = 5 ∨ f = 6 := by omega
 have e : (0 : Int) / 86400 = 0 := by decide
 rcases hf with rfl | rfl | rfl | rfl | rfl | rfl | rfl
 ·simp [num, unit]
 ·simp [num, unit]
 ·simp [num, unit]
 ·simp [num, unit]
 ·simp only [num, e, Wk.back]
  simp only [Int.reduceLE, Int.reduceEq, if_true, if_false]
  split <;> omega
 ·simp [num, dateY_0, dateM_0]
 ·simp [num, dateY_0]
theorem idx_hi {f w : Int} (hc : counts f w = true) (f0 : 0 ≤ f) : last f w = if f = 0 then 315537897599 else if f = 1 then 5258964959 else if f = 2 then 87649415 else if f = 3 then 3652058 else if f = 4 then (3652058 - Wk.back 3652058 w - w) / 7 + 1 else if f = 5 then 119999 else 9999 := by
 obtain ⟨c1, c2, c3⟩ := (counts_iff f w).1 hc
 unfold last
 rw [index_of hc (by omega) (by omega)]
 have hf : f = 0 ∨ f = 1 ∨ f = 2 ∨ f = 3 ∨ f = 4 ∨ f = 5 ∨ f = 6 := by omega
 have e : (315537897599 : Int) / 86400 = 3652058 := by decide
 rcases hf with rfl | rfl | rfl | rfl | rfl | rfl | rfl
 ·simp [num, unit]
 ·simp [num, unit]
 ·simp [num, unit]
 ·simp [num, unit]
 ·simp [num, e]
 ·simp [num, e, dateY_l, dateM_l]
 ·simp [num, e, dateY_l]
theorem idx_rng {f w i : Int} (hc : counts f w = true) (f0 : 0 ≤ f) (h1 : index f w 0 ≤ i) (h2 : i ≤ last f w) :
  (f = 0 → 0 ≤ i ∧ i ≤ 315537897599) ∧ (f = 1 → 0 ≤ i ∧ i ≤ 5258964959) ∧ (f = 2 → 0 ≤ i ∧ i ≤ 87649415) ∧ (f = 3 → 0 ≤ i ∧ i ≤ 3652058) ∧ (f = 4 → 0 ≤ i ∧ i ≤ 600000) ∧ (f = 5 → 12 ≤ i ∧ i ≤ 119999) ∧ (f = 6 → 1 ≤ i ∧ i ≤ 9999) := by
 obtain ⟨c1, c2, c3⟩ := (counts_iff f w).1 hc
 have b := Wk.back_bd 3652058 w
 rw [idx_lo hc f0] at h1
 rw [idx_hi hc f0] at h2
 have hf : f = 0 ∨ f = 1 ∨ f = 2 ∨ f = 3 ∨ f = 4 ∨ f = 5 ∨ f = 6 := by omega
 rcases hf with rfl | rfl | rfl | rfl | rfl | rfl | rfl <;> simp at h1 h2 ⊢ <;> (try split at h1) <;> omega
theorem up_pos {p k : Int} (hk : 0 < k) (hr : 0 < p % k) : (p + k - 1) / k * k = p + (k - p % k) := by
 have h := Int.emod_add_mul_ediv p k
 have h2 := Int.emod_lt_of_pos p hk
 have hu : (p + k - 1) / k = p / k + 1 := ((Int.ediv_emod_unique (r := p % k - 1) hk).2 ⟨by rw [Int.mul_add]; omega, by omega, by omega⟩).1
 rw [hu, Int.mul_comm, Int.mul_add]
 omega
theorem up_zero {p k : Int} (hk : 0 < k) (hr : p % k = 0) : (p + k - 1) / k * k = p := by
 have h := Int.emod_add_mul_ediv p k
 have hu : (p + k - 1) / k = p / k := ((Int.ediv_emod_unique (r := k - 1) hk).2 ⟨by omega, by omega, by omega⟩).1
 rw [hu, Int.mul_comm]
 omega
theorem up_bd {p k : Int} (hk : 0 < k) (hp : 0 ≤ p) : 0 ≤ (p + k - 1) / k * k ∧ p ≤ (p + k - 1) / k * k ∧ (p + k - 1) / k * k ≤ p + k - 1 := by
 have h2 := Int.emod_lt_of_pos p hk
 have h3 := Int.emod_nonneg p (b := k) (by omega)
 by_cases h : p % k = 0
 ·rw [up_zero hk h]; omega
 ·rw [up_pos hk (by omega)]; omega
end Go.Proofs.YtkbohijlhhpfbaaGreatDoor.Pd
/- The plain law of periods: each second is in the stretch of its period, and so on. -/
namespace Go.Proofs.YtkbohijlhhpfbaaGreatDoor.Pd
open Civ
theorem index_bd {f w s : Int} (hc : counts f w = true) (f0 : 0 ≤ f) (h1 : 0 ≤ s) (h2 : s ≤ 315537897599) : 0 ≤ index f w s ∧ index f w 0 ≤ index f w s ∧ index f w s ≤ last f w := by
 obtain ⟨c1, c2, c3⟩ := (counts_iff f w).1 hc
 have l := idx_lo hc f0
 have h := idx_hi hc f0
 rw [l, h, index_of hc h1 h2]
 clear l h
 have b := Wk.back_bd (s / 86400) w
 have b0 : Wk.back (s / 86400) w = (s / 86400 - w) % 7 := rfl
 have bl : Wk.back 3652058 w = (3652058 - w) % 7 := rfl
 have d1 : 0 ≤ s / 86400 := by omega
 have d2 : s / 86400 ≤ 3652058 := by omega
 obtain ⟨y1, y2, m1, m2, _, _, _⟩ := date_spec d1 d2
 have hf : f = 0 ∨ f = 1 ∨ f = 2 ∨ f = 3 ∨ f = 4 ∨ f = 5 ∨ f = 6 := by omega
 rcases hf with rfl | rfl | rfl | rfl | rfl | rfl | rfl
 ·simp [num, unit]; omega
 ·simp [num, unit]; omega
 ·simp [num, unit]; omega
 ·simp [num, unit]; omega
 ·simp only [num, Int.reduceLE, Int.reduceEq, if_true, if_false]
  split <;> omega
 ·simp only [num, Int.reduceLE, Int.reduceEq, if_true, if_false]
  omega
 ·simp only [num, Int.reduceLE, Int.reduceEq, if_false]
  omega
theorem dateY_eq {d a : Int} (h1 : 0 ≤ d) (h2 : d ≤ 3652058) (h3 : ahead a ≤ d) (h4 : d < ahead (a + 1)) : dateY d = a := by
 obtain ⟨y1, y2, m1, m2, d1, d2, e⟩ := date_spec h1 h2
 have b := date_of y1 y2 m1 m2 d1 d2
 rw [e] at b
 exact Civ.year_unique b.2.2.1 b.2.2.2 h3 h4
def Part (f w i s a b : Int) : Prop := 0 ≤ a ∧ a ≤ s ∧ s < b ∧ b ≤ 315537897600 ∧ (b ≤ 315537897599 → index f w b = i + 1) ∧ (0 < a → index f w (a - 1) = i - 1) ∧ (b = 315537897600 ↔ i = last f w) ∧ index f w (b - 1) = i
theorem part_short {f w s u : Int} (hc : counts f w = true) (f3 : f ≤ 3) (hu : unit f = u) (hu' : u = 1 ∨ u = 60 ∨ u = 3600 ∨ u = 86400) (hl : last f w = 315537897599 / u) (h1 : 0 ≤ s) (h2 : s ≤ 315537897599) : Part f w (s / u) s (s / u * u) ((s / u + 1) * u) := by
 have hn : ∀ t, 0 ≤ t → t ≤ 315537897599 → index f w t = t / u := fun t a b => by rw [index_of hc a b]; unfold num; rw [if_pos f3, hu]
 unfold Part
 rw [hl]
 rcases hu' with rfl | rfl | rfl | rfl
 all_goals
  refine ⟨by omega, by omega, by omega, by omega, fun h => ?_, fun h => ?_, by omega, ?_⟩
  ·rw [hn _ (by omega) h]; omega
  ·rw [hn _ (by omega) (by omega)]; omega
  ·rw [hn _ (by omega) (by omega)]; omega
theorem part_week {w s : Int} (hc : counts 4 w = true) (h1 : 0 ≤ s) (h2 : s ≤ 315537897599) : Part 4 w (index 4 w s) s (lo (day0 4 w (index 4 w s))) (hi (day1 4 w (index 4 w s))) := by
 have hn : ∀ t, 0 ≤ t → t ≤ 315537897599 → index 4 w t = (t / 86400 - Wk.back (t / 86400) w - w) / 7 + 1 := fun t a b => by rw [index_of hc a b]; simp [num]
 have hl : last 4 w = (3652058 - Wk.back 3652058 w - w) / 7 + 1 := by rw [idx_hi hc (by omega)]; simp
 obtain ⟨d, hd⟩ : ∃ d, d = s / 86400 := ⟨_, rfl⟩
 obtain ⟨B, hB⟩ : ∃ B, B = d - Wk.back d w := ⟨_, rfl⟩
 have hb : Wk.back d w = (d - w) % 7 := rfl
 have hbl : Wk.back 3652058 w = (3652058 - w) % 7 := rfl
 have hi' : index 4 w s = (B - w) / 7 + 1 := by rw [hn s h1 h2, ← hd, hB]
 have hm : (B - w) % 7 = 0 := by omega
 have h0 : day0 4 w (index 4 w s) = B := by rw [hi']; simp [day0]; omega
 have h7 : day1 4 w (index 4 w s) = B + 7 := by rw [hi']; simp [day1]; omega
 rw [h0, h7, hi']
 unfold Part
 rw [hl]
 have hk : ∀ t k, 0 ≤ t → t ≤ 315537897599 → t / 86400 = B + k → index 4 w t = (B + k - (B + k - w) % 7 - w) / 7 + 1 := fun t k a b c => by rw [hn t a b, c]; rfl
 unfold lo hi
 split
 ·next c0 =>
  split
  ·next c1 =>
   refine ⟨by omega, by omega, by omega, by omega, fun h => ?_, fun h => ?_, by omega, ?_⟩
   ·rw [hk _ 7 (by omega) h (by omega)]; omega
   ·rw [hk _ (-1) (by omega) (by omega) (by omega)]; omega
   ·rw [hk _ 6 (by omega) (by omega) (by omega)]; omega
  ·next c1 =>
   refine ⟨by omega, by omega, by omega, by omega, fun h => ?_, fun h => ?_, by omega, ?_⟩
   ·omega
   ·rw [hk _ (-1) (by omega) (by omega) (by omega)]; omega
   ·rw [hk _ (3652058 - B) (by omega) (by omega) (by omega)]; omega
 ·next c0 =>
  split
  ·next c1 =>
   refine ⟨by omega, by omega, by omega, by omega, fun h => ?_, fun h => ?_, by omega, ?_⟩
   ·rw [hk _ 7 (by omega) h (by omega)]; omega
   ·omega
   ·rw [hk _ 6 (by omega) (by omega) (by omega)]; omega
  ·omega
theorem part_days {f w s i F G : Int} (hF : 0 ≤ F) (hG : G ≤ 3652059) (hs1 : F ≤ s / 86400) (hs2 : s / 86400 < G)
  (hb : ∀ t, index f w t = if 0 ≤ t ∧ t ≤ 315537897599 then index f w (t / 86400 * 86400) else -1) (hnext : G ≤ 3652058 → index f w (G * 86400) = i + 1) (hprev : 0 < F → index f w ((F - 1) * 86400) = i - 1) (hlast : G = 3652059 ↔ i = last f w) (hend : index f w ((G - 1) * 86400) = i) : Part f w i s (lo F) (hi G) := by
 have e1 : lo F = F * 86400 := by unfold lo; rw [if_pos hF]
 have e2 : hi G = G * 86400 := by unfold hi; split <;> omega
 rw [e1, e2]
 unfold Part
 refine ⟨by omega, by omega, by omega, by omega, fun h => hnext (by omega), fun h => ?_, ?_, ?_⟩
 ·rw [hb, if_pos ⟨by omega, by omega⟩, show (F * 86400 - 1) / 86400 = F - 1 by omega]
  exact hprev (by omega)
 ·rw [← hlast]; omega
 ·rw [hb, if_pos ⟨by omega, by omega⟩, show (G * 86400 - 1) / 86400 = G - 1 by omega]
  exact hend
theorem index_day {f w : Int} (hc : counts f w = true) (f4 : ¬ f ≤ 3) (t : Int) : index f w t = if 0 ≤ t ∧ t ≤ 315537897599 then index f w (t / 86400 * 86400) else -1 := by
 by_cases ht : 0 ≤ t ∧ t ≤ 315537897599
 ·rw [if_pos ht, index_of hc ht.1 ht.2, index_of hc (by omega) (by omega)]
  have e : t / 86400 * 86400 / 86400 = t / 86400 := by omega
  unfold num
  rw [if_neg f4, if_neg f4, e]
 ·rw [if_neg ht]; unfold index; rw [if_neg (fun h => ht h.2)]
theorem part_year {w s : Int} (hc : counts 6 w = true) (h1 : 0 ≤ s) (h2 : s ≤ 315537897599) : Part 6 w (index 6 w s) s (lo (day0 6 w (index 6 w s))) (hi (day1 6 w (index 6 w s))) := by
 have hn : ∀ d, 0 ≤ d → d ≤ 3652058 → index 6 w (d * 86400) = dateY d := fun d a b => by
  rw [index_of hc (by omega) (by omega), show num 6 w (d * 86400) = dateY (d * 86400 / 86400) by simp [num], show d * 86400 / 86400 = d by omega]
 have hi0 : index 6 w s = dateY (s / 86400) := by rw [index_of hc h1 h2]; simp [num]
 have hl : last 6 w = 9999 := by rw [idx_hi hc (by omega)]; simp
 obtain ⟨y1, y2, m1, m2, d1, d2, e⟩ := date_spec (n := s / 86400) (by omega) (by omega)
 have b := date_of y1 y2 m1 m2 d1 d2
 rw [e] at b
 rw [hi0]
 generalize dateY (s / 86400) = y at *
 have ld := len_ge (y := y) (m := 1) y1 y2 (by omega) (by omega)
 have hd := (day_of (y := y) (m := 1) (d := 1) (by omega) (by omega)).1
 rw [til_first] at hd
 have ha := ahead_succ y1 y2
 have hy := days_eq y1 y2
 have o := one_bd y
 have g1 := ahead_mono (y := 1) (z := y) y1
 have g2 := ahead_mono (y := y + 1) (z := 10000) (by omega)
 have e1 : ahead 1 = 0 := by decide
 have e2 : ahead 10000 = 3652059 := by decide
 have hd0 : day0 6 w y = ahead y := by simp only [day0, Int.reduceEq, if_false]; omega
 have hd1 : day1 6 w y = ahead (y + 1) := by simp only [day1, Int.reduceEq, if_false]; omega
 rw [hd0, hd1]
 refine part_days (by omega) (by omega) b.2.2.1 b.2.2.2 (index_day hc (by omega)) (fun h => ?_) (fun h => ?_) ?_ ?_
 ·rw [hn _ (by omega) h]
  have hy9 : y ≤ 9998 := by
   by_cases hh : y = 9999
   ·subst hh; have : ahead (9999 + 1) = ahead 10000 := rfl; omega
   ·omega
  have := ahead_succ (y := y + 1) (by omega) (by omega)
  have := one_bd (y + 1)
  exact dateY_eq (by omega) h (by omega) (by omega)
 ·rw [hn _ (by omega) (by omega)]
  have hy9 : 2 ≤ y := by
   by_cases hh : y = 1
   ·subst hh; omega
   ·omega
  have hs := ahead_succ (y := y - 1) (by omega) (by omega)
  have := one_bd (y - 1)
  have ee : y - 1 + 1 = y := by omega
  rw [ee] at hs
  exact dateY_eq (by omega) (by omega) (by omega) (by rw [ee]; omega)
 ·rw [hl]
  constructor
  ·intro h
   by_cases hh : y = 9999
   ·exact hh
   ·have := ahead_mono (y := y + 1) (z := 9999) (by omega)
    have e3 : ahead 9999 = 3651694 := by decide
    omega
  ·rintro rfl
   exact e2
 ·rw [hn _ (by omega) (by omega)]
  exact dateY_eq (by omega) (by omega) (by omega) (by omega)
theorem part_month {w s : Int} (hc : counts 5 w = true) (h1 : 0 ≤ s) (h2 : s ≤ 315537897599) : Part 5 w (index 5 w s) s (lo (day0 5 w (index 5 w s))) (hi (day1 5 w (index 5 w s))) := by
 have hn : ∀ d, 0 ≤ d → d ≤ 3652058 → index 5 w (d * 86400) = dateY d * 12 + dateM d - 1 := fun d a b => by
  rw [index_of hc (by omega) (by omega), show num 5 w (d * 86400) = dateY (d * 86400 / 86400) * 12 + dateM (d * 86400 / 86400) - 1 by simp [num], show d * 86400 / 86400 = d by omega]
 have hi0 : index 5 w s = dateY (s / 86400) * 12 + dateM (s / 86400) - 1 := by rw [index_of hc h1 h2]; simp [num]
 have hl : last 5 w = 119999 := by rw [idx_hi hc (by omega)]; simp
 obtain ⟨y1, y2, m1, m2, d1, d2, e⟩ := date_spec (n := s / 86400) (by omega) (by omega)
 rw [hi0]
 generalize dateY (s / 86400) = y at *
 generalize dateM (s / 86400) = m at *
 generalize dateD (s / 86400) = dd at *
 have ld := len_ge (y := y) (m := m) y1 y2 m1 m2
 have hd := (day_of (y := y) (m := m) (d := 1) (by omega) (by omega)).1
 have q1 : (y * 12 + m - 1) / 12 = y := by omega
 have q2 : (y * 12 + m - 1) % 12 + 1 = m := by omega
 obtain ⟨F, hF⟩ : ∃ F, F = ahead y + til y m := ⟨_, rfl⟩
 have hd0 : day0 5 w (y * 12 + m - 1) = F := by simp only [day0, q1, q2, Int.reduceEq, if_false, if_true]; omega
 have hd1 : day1 5 w (y * 12 + m - 1) = F + len y m := by simp only [day1, q1, q2, Int.reduceEq, if_false, if_true]; omega
 rw [hd0, hd1]
 have b1 := date_of (y := y) (m := m) (d := 1) y1 y2 m1 m2 (by omega) (by omega)
 have b2 := date_of (y := y) (m := m) (d := len y m) y1 y2 m1 m2 (by omega) (by omega)
 have u1 := date_unique (n := F) (y := y) (m := m) (d := 1) y1 y2 m1 m2 (by omega) (by omega) (by omega)
 have u2 := date_unique (n := F + len y m - 1) (y := y) (m := m) (d := len y m) y1 y2 m1 m2 (by omega) (by omega) (by omega)
 refine part_days (by omega) (by omega) (by omega) (by omega) (index_day hc (by omega)) (fun h => ?_) (fun h => ?_) ?_ ?_
 ·rw [hn _ (by omega) h]
  have nx := next_day (n := F + len y m - 1) (by omega) (by omega)
  rw [show F + len y m - 1 + 1 = F + len y m by omega, u2.1, u2.2.1, u2.2.2] at nx
  rcases nx with ⟨a, _⟩ | ⟨_, _, a, b, _⟩ | ⟨_, a, _, b, c, _⟩
  ·omega
  ·rw [a, b]; omega
  ·rw [b, c]; omega
 ·rw [hn _ (by omega) (by omega)]
  have nx := next_day (n := F - 1) (by omega) (by omega)
  rw [show F - 1 + 1 = F by omega, u1.1, u1.2.1, u1.2.2] at nx
  obtain ⟨_, _, _, _, d1', _, _⟩ := date_spec (n := F - 1) (by omega) (by omega)
  rcases nx with ⟨_, _, _, a⟩ | ⟨_, _, a, b, _⟩ | ⟨_, a, _, b, c, _⟩
  ·omega
  ·rw [← a]; omega
  ·omega
 ·rw [hl]
  constructor
  ·intro h
   have e1 : F + len y m - 1 = 3652058 := by omega
   rw [e1, dateY_l, dateM_l] at u2
   omega
  ·intro h
   have hy : y = 9999 := by omega
   have hm : m = 12 := by omega
   subst hy; subst hm
   have e1 : len 9999 12 = 31 := by decide
   have e2 : ahead 9999 = 3651694 := by decide
   have e3 : til 9999 12 = 334 := by decide
   omega
 ·rw [hn _ (by omega) (by omega), u2.1, u2.2.1]
theorem parts {f w s : Int} (hc : counts f w = true) (f0 : 0 ≤ f) (h1 : 0 ≤ s) (h2 : s ≤ 315537897599) : Part f w (index f w s) s (frm f w (index f w s)) (to f w (index f w s)) := by
 obtain ⟨c1, c2, c3⟩ := (counts_iff f w).1 hc
 obtain ⟨i0, i1, i2⟩ := index_bd hc f0 h1 h2
 have hF : frm f w (index f w s) = if f ≤ 3 then index f w s * unit f else lo (day0 f w (index f w s)) := by unfold frm; rw [if_pos ⟨hc, i1, i2⟩]
 have hL : to f w (index f w s) = if f ≤ 3 then (index f w s + 1) * unit f else hi (day1 f w (index f w s)) := by unfold to; rw [if_pos ⟨hc, i1, i2⟩]
 rw [hF, hL]
 have hl := idx_hi hc f0
 have hf : f = 0 ∨ f = 1 ∨ f = 2 ∨ f = 3 ∨ f = 4 ∨ f = 5 ∨ f = 6 := by omega
 rcases hf with rfl | rfl | rfl | rfl | rfl | rfl | rfl
 ·have hi' : index 0 w s = s / 1 := by rw [index_of hc h1 h2]; simp [num, unit]
  rw [if_pos (by omega), if_pos (by omega), hi']
  exact part_short (u := 1) hc (by omega) rfl (by omega) (by rw [hl]; simp) h1 h2
 ·have hi' : index 1 w s = s / 60 := by rw [index_of hc h1 h2]; simp [num, unit]
  rw [if_pos (by omega), if_pos (by omega), hi']
  exact part_short (u := 60) hc (by omega) rfl (by omega) (by rw [hl]; simp) h1 h2
 ·have hi' : index 2 w s = s / 3600 := by rw [index_of hc h1 h2]; simp [num, unit]
  rw [if_pos (by omega), if_pos (by omega), hi']
  exact part_short (u := 3600) hc (by omega) rfl (by omega) (by rw [hl]; simp) h1 h2
 ·have hi' : index 3 w s = s / 86400 := by rw [index_of hc h1 h2]; simp [num, unit]
  rw [if_pos (by omega), if_pos (by omega), hi']
  exact part_short (u := 86400) hc (by omega) rfl (by omega) (by rw [hl]; simp) h1 h2
 ·rw [if_neg (by omega), if_neg (by omega)]; exact part_week hc h1 h2
 ·rw [if_neg (by omega), if_neg (by omega)]; exact part_month hc h1 h2
 ·rw [if_neg (by omega), if_neg (by omega)]; exact part_year hc h1 h2
end Go.Proofs.YtkbohijlhhpfbaaGreatDoor.Pd
/- What a period has: plain lists and numbers. -/
namespace Go.Proofs.YtkbohijlhhpfbaaGreatDoor.Xp
theorem frm_lt {f w i : Int} (f0 : 0 ≤ f) (hc : Pd.counts f w = true) (h1 : Pd.index f w 0 ≤ i) (h2 : i ≤ Pd.last f w) : 0 ≤ Pd.frm f w i ∧ Pd.frm f w i < Pd.to f w i ∧ Pd.to f w i ≤ 315537897600 := by
 obtain ⟨c1, c2, c3⟩ := (Pd.counts_iff f w).1 hc
 have hF : Pd.frm f w i = if f ≤ 3 then i * Pd.unit f else Pd.lo (Pd.day0 f w i) := by unfold Pd.frm; rw [if_pos ⟨hc, h1, h2⟩]
 have hL : Pd.to f w i = if f ≤ 3 then (i + 1) * Pd.unit f else Pd.hi (Pd.day1 f w i) := by unfold Pd.to; rw [if_pos ⟨hc, h1, h2⟩]
 rw [hF, hL]
 clear hF hL
 obtain ⟨r0, r1, r2, r3, r4, r5, r6⟩ := Pd.idx_rng hc f0 h1 h2
 have hl := Pd.idx_lo hc f0
 have hh := Pd.idx_hi hc f0
 have hf : f = 0 ∨ f = 1 ∨ f = 2 ∨ f = 3 ∨ f = 4 ∨ f = 5 ∨ f = 6 := by omega
 rcases hf with rfl | rfl | rfl | rfl | rfl | rfl | rfl
 ·obtain ⟨a1, a2⟩ := r0 rfl
  simp [Pd.unit]; omega
 ·obtain ⟨a1, a2⟩ := r1 rfl
  simp [Pd.unit]; omega
 ·obtain ⟨a1, a2⟩ := r2 rfl
  simp [Pd.unit]; omega
 ·obtain ⟨a1, a2⟩ := r3 rfl
  simp [Pd.unit]; omega
 ·obtain ⟨a1, a2⟩ := r4 rfl
  have b : Wk.back 3652058 w = (3652058 - w) % 7 := rfl
  simp only [Int.reduceLE, Int.reduceEq, if_true, if_false] at hl hh
  rw [hl] at h1
  rw [hh] at h2
  have hw : 1 ≤ i ∨ (i = 0 ∧ 1 ≤ w) := by
   by_cases hw : w = 0
   ·rw [if_pos hw] at h1; omega
   ·omega
  simp only [Pd.day0, Pd.day1, Pd.lo, Pd.hi, Int.reduceLE, Int.reduceEq, if_true, if_false]
  split <;> split <;> omega
 ·obtain ⟨a1, a2⟩ := r5 rfl
  have lg := Civ.len_ge (y := i / 12) (m := i % 12 + 1) (by omega) (by omega) (by omega) (by omega)
  have hdo := Civ.date_of (y := i / 12) (m := i % 12 + 1) (d := 1) (by omega) (by omega) (by omega) (by omega) (by omega) (by omega)
  have hdd := (Civ.day_of (y := i / 12) (m := i % 12 + 1) (d := 1) (by omega) (by omega)).1
  have hde := Civ.date_of (y := i / 12) (m := i % 12 + 1) (d := Civ.len (i / 12) (i % 12 + 1)) (by omega) (by omega) (by omega) (by omega) (by omega) (by omega)
  obtain ⟨q1, q2, _, _⟩ := hdo
  obtain ⟨q3, q4, _, _⟩ := hde
  simp only [Pd.day0, Pd.day1, Pd.lo, Pd.hi, Int.reduceLE, Int.reduceEq, if_true, if_false, hdd]
  split <;> split <;> omega
 ·obtain ⟨a1, a2⟩ := r6 rfl
  have lg := Civ.len_ge (y := i) (m := 1) (by omega) (by omega) (by omega) (by omega)
  have hdd := (Civ.day_of (y := i) (m := 1) (d := 1) (by omega) (by omega)).1
  rw [Civ.til_first] at hdd
  have ha := Civ.ahead_succ (y := i) (by omega) (by omega)
  have hy := Civ.days_eq (y := i) (by omega) (by omega)
  have o := Civ.one_bd i
  have g1 := Civ.ahead_mono (y := 1) (z := i) (by omega)
  have g2 := Civ.ahead_mono (y := i + 1) (z := 10000) (by omega)
  have e1 : Civ.ahead 1 = 0 := by decide
  have e2 : Civ.ahead 10000 = 3652059 := by decide
  simp only [Pd.day0, Pd.day1, Pd.lo, Pd.hi, Int.reduceLE, Int.reduceEq, if_false, hdd]
  split <;> split <;> omega
def Shape (f a b : Int) : Prop := 0 ≤ a ∧ a < b ∧ b ≤ 315537897600 ∧ (f ≤ 2 → a / 86400 = (b - 1) / 86400) ∧ (3 ≤ f → a % 86400 = 0 ∧ b % 86400 = 0) ∧ (b + 86399) / 86400 - a / 86400 ≤ 366
theorem lohi {F n : Int} (n0 : 0 ≤ n) (n1 : n ≤ 366) (h : 0 ≤ Pd.lo F ∧ Pd.lo F < Pd.hi (F + n) ∧ Pd.hi (F + n) ≤ 315537897600) : Pd.lo F % 86400 = 0 ∧ Pd.hi (F + n) % 86400 = 0 ∧ (Pd.hi (F + n) + 86399) / 86400 - Pd.lo F / 86400 ≤ 366 := by
 unfold Pd.lo Pd.hi at *
 by_cases a : 0 ≤ F <;> by_cases b : F + n ≤ 3652059
 ·rw [if_pos a, if_pos b] at *; omega
 ·rw [if_pos a, if_neg b] at *; omega
 ·rw [if_neg a, if_pos b] at *; omega
 ·rw [if_neg a, if_neg b] at *; omega
theorem shape {f w i : Int} (f0 : 0 ≤ f) (hc : Pd.counts f w = true) (h1 : Pd.index f w 0 ≤ i) (h2 : i ≤ Pd.last f w) : Shape f (Pd.frm f w i) (Pd.to f w i) := by
 have hlt := frm_lt f0 hc h1 h2
 obtain ⟨c1, c2, c3⟩ := (Pd.counts_iff f w).1 hc
 have hF : Pd.frm f w i = if f ≤ 3 then i * Pd.unit f else Pd.lo (Pd.day0 f w i) := by unfold Pd.frm; rw [if_pos ⟨hc, h1, h2⟩]
 have hL : Pd.to f w i = if f ≤ 3 then (i + 1) * Pd.unit f else Pd.hi (Pd.day1 f w i) := by unfold Pd.to; rw [if_pos ⟨hc, h1, h2⟩]
 obtain ⟨r0, r1, r2, r3, r4, r5, r6⟩ := Pd.idx_rng hc f0 h1 h2
 refine ⟨hlt.1, hlt.2.1, hlt.2.2, ?_⟩
 have hf : f = 0 ∨ f = 1 ∨ f = 2 ∨ f = 3 ∨ f = 4 ∨ f = 5 ∨ f = 6 := by omega
 rcases hf with rfl | rfl | rfl | rfl | rfl | rfl | rfl
 ·rw [hF, hL]; simp [Pd.unit]; omega
 ·rw [hF, hL]; simp [Pd.unit]; omega
 ·rw [hF, hL]; simp [Pd.unit]; omega
 ·rw [hF, hL]; simp [Pd.unit]; omega
 ·rw [hF, hL]
  rw [hF, hL] at hlt
  simp only [Pd.day0, Pd.day1, Int.reduceLE, Int.reduceEq, if_true, if_false] at hlt ⊢
  have := lohi (F := (i - 1) * 7 + w) (n := 7) (by omega) (by omega) hlt
  exact ⟨fun h => by first | exact h.elim | omega, fun _ => ⟨this.1, this.2.1⟩, this.2.2⟩
 ·rw [hF, hL]
  rw [hF, hL] at hlt
  have lb := Civ.len_bd (i / 12) (i % 12 + 1)
  simp only [Pd.day0, Pd.day1, Int.reduceLE, Int.reduceEq, if_true, if_false] at hlt ⊢
  have := lohi (by omega) (by omega) hlt
  exact ⟨fun h => by first | exact h.elim | omega, fun _ => ⟨this.1, this.2.1⟩, this.2.2⟩
 ·rw [hF, hL]
  rw [hF, hL] at hlt
  obtain ⟨a1, a2⟩ := r6 rfl
  have hy := Civ.days_eq (y := i) (by omega) (by omega)
  have o := Civ.one_bd i
  simp only [Pd.day0, Pd.day1, Int.reduceLE, Int.reduceEq, if_false] at hlt ⊢
  have := lohi (by omega) (by omega) hlt
  exact ⟨fun h => by first | exact h.elim | omega, fun _ => ⟨this.1, this.2.1⟩, this.2.2⟩
theorem frm_bd {f w i : Int} (f0 : 0 ≤ f) : 0 ≤ Pd.frm f w i ∧ Pd.frm f w i ≤ Pd.to f w i ∧ Pd.to f w i ≤ 315537897600 := by
 by_cases h : Pd.counts f w = true ∧ Pd.index f w 0 ≤ i ∧ i ≤ Pd.last f w
 ·have := frm_lt f0 h.1 h.2.1 h.2.2; omega
 ·have h1 : Pd.frm f w i = 0 := by unfold Pd.frm; rw [if_neg h]
  have h2 : Pd.to f w i = 0 := by unfold Pd.to; rw [if_neg h]
  omega
def allOf (ds ts : List Int) : List Int := ds.flatMap fun d => ts.map fun t => d * 86400 + t
def dayOf (d : Int) (ts : List Int) : List Int := ts.map fun t => d * 86400 + t
theorem allOf_length (ds ts : List Int) : (allOf ds ts).length = ds.length * ts.length := by
 induction ds with
 | nil => simp [allOf]
 | cons d ds ih =>
  have : allOf (d :: ds) ts = dayOf d ts ++ allOf ds ts := rfl
  rw [this, List.length_append, ih]
  simp only [dayOf, List.length_map, List.length_cons, Nat.add_mul]; omega
theorem allOf_snoc (ds : List Int) (d : Int) (ts : List Int) : allOf (ds ++ [d]) ts = allOf ds ts ++ dayOf d ts := by simp [allOf, dayOf]
theorem dayOf_snoc (d : Int) (ts : List Int) (t : Int) : dayOf d (ts ++ [t]) = dayOf d ts ++ [d * 86400 + t] := by simp [dayOf]
theorem take_snoc {l : List Int} {k : Nat} (hk : k < l.length) : l.take (k + 1) = l.take k ++ [l[k]] := by rw [List.take_succ_eq_append_getElem hk]
theorem allOf_succ {ds : List Int} {k : Nat} (hk : k < ds.length) (ts : List Int) : allOf (ds.take (k + 1)) ts = allOf (ds.take k) ts ++ dayOf ds[k] ts := by rw [take_snoc hk, allOf_snoc]
theorem dayOf_succ (d : Int) {ts : List Int} {j : Nat} (hj : j < ts.length) : dayOf d (ts.take (j + 1)) = dayOf d (ts.take j) ++ [d * 86400 + ts[j]] := by rw [take_snoc hj, dayOf_snoc]
theorem mem_allOf {ds ts : List Int} {x : Int} : x ∈ allOf ds ts ↔ ∃ d ∈ ds, ∃ t ∈ ts, x = d * 86400 + t := by
 unfold allOf; simp only [List.mem_flatMap, List.mem_map]
 constructor
 ·rintro ⟨d, hd, t, ht, rfl⟩; exact ⟨d, hd, t, ht, rfl⟩
 ·rintro ⟨d, hd, t, ht, rfl⟩; exact ⟨d, hd, t, ht, rfl⟩
theorem all_le {ds : List Int} {k : Nat} (hk : k < ds.length) (d : Int) (ts : List Int) (j : Nat) : (allOf (ds.take k) ts ++ dayOf d (ts.take j)).length ≤ ds.length * ts.length := by
 rw [List.length_append, allOf_length, List.length_take, Nat.min_eq_left (Nat.le_of_lt hk)]
 have h1 : (dayOf d (ts.take j)).length ≤ ts.length := by unfold dayOf; rw [List.length_map]; exact List.length_take_le' _ _
 have h2 : (k + 1) * ts.length ≤ ds.length * ts.length := Nat.mul_le_mul_right _ hk
 rw [Nat.add_mul, Nat.one_mul] at h2
 omega
theorem allOf_rise {ds ts : List Int} (hd : ds.Pairwise (· < ·)) (ht : ts.Pairwise (· < ·)) (hb : ∀ t ∈ ts, 0 ≤ t ∧ t ≤ 86399) : (allOf ds ts).Pairwise (· < ·) := by
 induction ds with
 | nil => exact List.Pairwise.nil
 | cons d ds ih =>
  rw [List.pairwise_cons] at hd
  show (dayOf d ts ++ allOf ds ts).Pairwise (· < ·)
  rw [List.pairwise_append]
  refine ⟨?_, ih hd.2, fun x hx y hy => ?_⟩
  ·unfold dayOf; rw [List.pairwise_map]; exact ht.imp fun h => by omega
  ·obtain ⟨t, h1, rfl⟩ := List.mem_map.1 hx
   obtain ⟨d2, h2, t2, h3, rfl⟩ := mem_allOf.1 hy
   have := hd.1 d2 h2
   have := hb t h1
   have := hb t2 h3
   omega
def place (n : Nat) (p : Int) : Int := if 0 < p then p - 1 else n + p
def pickAt (n : Nat) (acc : List Int) (k : Int) : List Int := if 0 ≤ k ∧ k < n ∧ k ∉ acc then acc ++ [k] else acc
def pick (n : Nat) (acc : List Int) (p : Int) : List Int := pickAt n acc (place n p)
def ats (n : Nat) (ps : List Int) : List Int := ps.foldl (pick n) []
theorem ats_snoc (n : Nat) (ps : List Int) (p : Int) : ats n (ps ++ [p]) = pick n (ats n ps) p := by unfold ats; rw [List.foldl_append]; rfl
theorem ats_succ (n : Nat) {ps : List Int} {k : Nat} (hk : k < ps.length) : ats n (ps.take (k + 1)) = pick n (ats n (ps.take k)) ps[k] := by rw [take_snoc hk, ats_snoc]
theorem pick_len (n : Nat) (acc : List Int) (p : Int) : (pick n acc p).length ≤ acc.length + 1 := by unfold pick pickAt; split <;> simp
theorem foldl_pick_len (n : Nat) : ∀ (ps acc : List Int), (ps.foldl (pick n) acc).length ≤ acc.length + ps.length
 | [], acc => by simp
 | p :: ps, acc => by
  have := foldl_pick_len n ps (pick n acc p)
  have h2 := pick_len n acc p
  simp only [List.foldl_cons, List.length_cons]; omega
theorem ats_len (n : Nat) (ps : List Int) : (ats n ps).length ≤ ps.length := by have := foldl_pick_len n ps []; unfold ats; simpa using this
theorem mem_pick {n : Nat} {acc : List Int} {p x : Int} : x ∈ pick n acc p ↔ x ∈ acc ∨ (x = place n p ∧ 0 ≤ x ∧ x < n) := by
 unfold pick pickAt
 split
 ·rename_i h
  rw [List.mem_append, List.mem_singleton]
  constructor
  ·rintro (h1 | rfl)
   ·exact .inl h1
   ·exact .inr ⟨rfl, h.1, h.2.1⟩
  ·rintro (h1 | h1)
   ·exact .inl h1
   ·exact .inr h1.1
 ·rename_i h
  constructor
  ·exact .inl
  ·rintro (h1 | ⟨rfl, h1, h2⟩)
   ·exact h1
   ·by_cases hm : place n p ∈ acc
    ·exact hm
    ·exact absurd ⟨h1, h2, hm⟩ h
theorem mem_foldl {n : Nat} {x : Int} : ∀ (ps acc : List Int), x ∈ ps.foldl (pick n) acc ↔ x ∈ acc ∨ ((0 ≤ x ∧ x < n) ∧ ∃ p ∈ ps, x = place n p)
 | [], acc => by simp
 | p :: ps, acc => by
  rw [List.foldl_cons, mem_foldl ps, mem_pick]
  constructor
  ·rintro ((h | ⟨h1, h2⟩) | ⟨h1, q, hq, h2⟩)
   ·exact .inl h
   ·exact .inr ⟨h2, p, List.mem_cons_self, h1⟩
   ·exact .inr ⟨h1, q, List.mem_cons_of_mem _ hq, h2⟩
  ·rintro (h | ⟨h1, q, hq, h2⟩)
   ·exact .inl (.inl h)
   ·rcases List.mem_cons.1 hq with rfl | hq
    ·exact .inl (.inr ⟨h2, h1⟩)
    ·exact .inr ⟨h1, q, hq, h2⟩
theorem mem_ats {n : Nat} {ps : List Int} {x : Int} : x ∈ ats n ps ↔ (0 ≤ x ∧ x < n) ∧ ∃ p ∈ ps, x = place n p := by
 unfold ats; rw [mem_foldl]; simp
theorem mem_ats' {n : Nat} {ps : List Int} {k : Nat} (hk : k < n) : (k : Int) ∈ ats n ps ↔ ((k : Int) + 1 ∈ ps ∨ (k : Int) - n ∈ ps) := by
 rw [mem_ats]
 constructor
 ·rintro ⟨_, p, hp, h⟩
  unfold place at h
  split at h
  ·exact .inl (by rw [show (k : Int) + 1 = p by omega]; exact hp)
  ·exact .inr (by rw [show (k : Int) - n = p by omega]; exact hp)
 ·rintro (h | h)
  ·exact ⟨by omega, _, h, by unfold place; rw [if_pos (by omega)]; omega⟩
  ·exact ⟨by omega, _, h, by unfold place; rw [if_neg (by omega)]; omega⟩
theorem pick_nodup {n : Nat} {acc : List Int} {p : Int} (h : acc.Nodup) : (pick n acc p).Nodup := by
 unfold pick pickAt
 split
 ·rename_i hh
  rw [List.nodup_append]
  refine ⟨h, by simp, fun a ha b hb e => ?_⟩
  rw [List.mem_singleton] at hb
  subst hb; subst e
  exact hh.2.2 ha
 ·exact h
theorem foldl_nodup {n : Nat} : ∀ (ps acc : List Int), acc.Nodup → (ps.foldl (pick n) acc).Nodup
 | [], _, h => h
 | _ :: ps, _, h => foldl_nodup ps _ (pick_nodup h)
theorem ats_nodup (n : Nat) (ps : List Int) : (ats n ps).Nodup := foldl_nodup ps [] List.nodup_nil
def inr (n : Nat) (p : Int) : Bool := decide (0 ≤ place n p) && decide (place n p < n)
def isPick (ps : List Int) (n k : Nat) : Bool := decide ((k : Int) + 1 ∈ ps) || decide ((k : Int) - n ∈ ps)
def picksTo (ps l : List Int) (k : Nat) : List Int := ((List.range k).filter (isPick ps l.length)).map fun k => l[k]?.getD 0
def picks (ps l : List Int) : List Int := picksTo ps l l.length
theorem picksTo_yes {ps l : List Int} {k : Nat} (hk : k < l.length) (h : isPick ps l.length k = true) : picksTo ps l (k + 1) = picksTo ps l k ++ [l[k]] := by
 unfold picksTo; rw [List.range_succ, List.filter_append]; simp [h, List.getElem?_eq_getElem hk]
theorem picksTo_no {ps l : List Int} {k : Nat} (h : isPick ps l.length k = false) : picksTo ps l (k + 1) = picksTo ps l k := by
 unfold picksTo; rw [List.range_succ, List.filter_append]; simp [h]
theorem picksTo_len (ps l : List Int) (k : Nat) : (picksTo ps l k).length ≤ k := by
 unfold picksTo; rw [List.length_map]; exact Nat.le_trans (List.length_filter_le _ _) (by simp)
end Go.Proofs.YtkbohijlhhpfbaaGreatDoor.Xp
/- The periods of a way of counting, in their order: plain numbers. -/
namespace Go.Proofs.YtkbohijlhhpfbaaGreatDoor.Rs
open Pd
def In (f w i : Int) : Prop := index f w 0 ≤ i ∧ i ≤ last f w
theorem frm_eq {f w i : Int} (hc : counts f w = true) (h : In f w i) : frm f w i = if f ≤ 3 then i * unit f else lo (day0 f w i) := by unfold frm; rw [if_pos ⟨hc, h.1, h.2⟩]
theorem to_eq {f w i : Int} (hc : counts f w = true) (h : In f w i) : to f w i = if f ≤ 3 then (i + 1) * unit f else hi (day1 f w i) := by unfold to; rw [if_pos ⟨hc, h.1, h.2⟩]
theorem next_frm {f w i : Int} (f0 : 0 ≤ f) (hc : counts f w = true) (h : In f w i) (h' : In f w (i + 1)) : to f w i = frm f w (i + 1) := by
 obtain ⟨c1, c2, c3⟩ := (counts_iff f w).1 hc
 have a := Xp.frm_lt f0 hc h.1 h.2
 have b := Xp.frm_lt f0 hc h'.1 h'.2
 rw [frm_eq hc h'] at b ⊢
 rw [to_eq hc h] at a ⊢
 rw [to_eq hc h'] at b
 rw [frm_eq hc h] at a
 obtain ⟨r0, r1, r2, r3, r4, r5, r6⟩ := idx_rng hc f0 h.1 h.2
 obtain ⟨q0, q1, q2, q3, q4, q5, q6⟩ := idx_rng hc f0 h'.1 h'.2
 have hf : f = 0 ∨ f = 1 ∨ f = 2 ∨ f = 3 ∨ f = 4 ∨ f = 5 ∨ f = 6 := by omega
 rcases hf with rfl | rfl | rfl | rfl | rfl | rfl | rfl
 ·simp [unit]
 ·simp [unit]
 ·simp [unit]
 ·simp [unit]
 ·simp only [day0, day1, lo, hi, Int.reduceLE, Int.reduceEq, if_true, if_false] at a b ⊢
  rw [show (i + 1 - 1) * 7 + w = (i - 1) * 7 + w + 7 by omega] at b ⊢
  rw [if_pos (by split at a <;> split at a <;> split at b <;> split at b <;> omega), if_pos (by split at a <;> split at a <;> split at b <;> split at b <;> omega)]
 ·obtain ⟨a1, a2⟩ := r5 rfl
  obtain ⟨b1, b2⟩ := q5 rfl
  have lg := Civ.len_ge (y := i / 12) (m := i % 12 + 1) (by omega) (by omega) (by omega) (by omega)
  have lg' := Civ.len_ge (y := (i + 1) / 12) (m := (i + 1) % 12 + 1) (by omega) (by omega) (by omega) (by omega)
  have d1 := (Civ.day_of (y := i / 12) (m := i % 12 + 1) (d := 1) (by omega) (by omega)).1
  have d2 := (Civ.day_of (y := (i + 1) / 12) (m := (i + 1) % 12 + 1) (d := 1) (by omega) (by omega)).1
  have e := Civ.date_of (y := (i + 1) / 12) (m := (i + 1) % 12 + 1) (d := 1) (by omega) (by omega) (by omega) (by omega) (by omega) (by omega)
  have hd : Civ.day (i / 12) (i % 12 + 1) 1 + Civ.len (i / 12) (i % 12 + 1) = Civ.day ((i + 1) / 12) ((i + 1) % 12 + 1) 1 := by
   rw [d1, d2]
   have hy := (Civ.isYear_iff (i / 12)).2 ⟨by omega, by omega⟩
   have ts := Civ.til_succ hy (m := i % 12 + 1) (by omega) (by omega)
   by_cases hm : i % 12 = 11
   ·have e1 : (i + 1) / 12 = i / 12 + 1 := by omega
    have e2 : (i + 1) % 12 = 0 := by omega
    rw [e1, e2]
    have t0 := Civ.til_first (i / 12 + 1)
    have t13 := Civ.til_13 (i / 12)
    have ah := Civ.ahead_succ (y := i / 12) (by omega) (by omega)
    rw [hm] at ts ⊢
    have t0' : Civ.til (i / 12 + 1) (0 + 1) = 0 := t0
    have t13' : Civ.til (i / 12) (11 + 1 + 1) = 365 + Civ.one (i / 12) := t13
    omega
   ·have e1 : (i + 1) / 12 = i / 12 := by omega
    have e2 : (i + 1) % 12 = i % 12 + 1 := by omega
    rw [e1, e2]
    omega
  simp only [day0, day1, lo, hi, Int.reduceLE, Int.reduceEq, if_true, if_false]
  rw [hd, d2, if_pos (by omega), if_pos (by omega)]
 ·obtain ⟨a1, a2⟩ := r6 rfl
  obtain ⟨b1, b2⟩ := q6 rfl
  have lg := Civ.len_ge (y := i) (m := 1) (by omega) (by omega) (by omega) (by omega)
  have lg' := Civ.len_ge (y := i + 1) (m := 1) (by omega) (by omega) (by omega) (by omega)
  have d1 := (Civ.day_of (y := i) (m := 1) (d := 1) (by omega) (by omega)).1
  have d2 := (Civ.day_of (y := i + 1) (m := 1) (d := 1) (by omega) (by omega)).1
  rw [Civ.til_first] at d1 d2
  have ah := Civ.ahead_succ (y := i) (by omega) (by omega)
  have hy := Civ.days_eq (y := i) (by omega) (by omega)
  have e := Civ.date_of (y := i + 1) (m := 1) (d := 1) (by omega) (by omega) (by omega) (by omega) (by omega) (by omega)
  rw [Civ.til_first] at e
  have hd : Civ.day i 1 1 + Civ.days i = Civ.day (i + 1) 1 1 := by rw [d1, d2]; omega
  simp only [day0, day1, lo, hi, Int.reduceLE, Int.reduceEq, if_false]
  rw [hd, d2, if_pos (by omega), if_pos (by omega)]
theorem in_of {f w i j k : Int} (h : In f w i) (h' : In f w k) (h1 : i ≤ j) (h2 : j ≤ k) : In f w j := ⟨by have := h.1; omega, by have := h'.2; omega⟩
theorem later_frm {f w i : Int} (f0 : 0 ≤ f) (hc : counts f w = true) (h : In f w i) : ∀ n : Nat, In f w (i + n + 1) → to f w i ≤ frm f w (i + n + 1)
 | 0, h' => by
  have e : i + ((0 : Nat) : Int) + 1 = i + 1 := by omega
  rw [e] at h' ⊢
  rw [next_frm f0 hc h h']; omega
 | n + 1, h' => by
  have hm : In f w (i + n + 1) := in_of h h' (by omega) (by omega)
  have ih := later_frm f0 hc h n hm
  have e : i + ((n + 1 : Nat) : Int) + 1 = i + n + 1 + 1 := by omega
  rw [e] at h' ⊢
  have := next_frm f0 hc hm h'
  have := Xp.frm_lt f0 hc hm.1 hm.2
  omega
theorem later {f w i j : Int} (f0 : 0 ≤ f) (hc : counts f w = true) (h : In f w i) (h' : In f w j) (hlt : i < j) : to f w i ≤ frm f w j := by
 have e : i + ((j - i - 1).toNat : Int) + 1 = j := by omega
 have := later_frm f0 hc h (j - i - 1).toNat (by rw [e]; exact h')
 rwa [e] at this
theorem one_stretch {f w i t : Int} (f0 : 0 ≤ f) (hc : counts f w = true) (h : In f w i) (h1 : frm f w i ≤ t) (h2 : t < to f w i) : index f w t = i := by
 have a := Xp.frm_lt f0 hc h.1 h.2
 have t0 : 0 ≤ t := by omega
 have t1 : t ≤ 315537897599 := by omega
 have hp := parts hc f0 t0 t1
 obtain ⟨_, b1, b2⟩ := index_bd hc f0 t0 t1
 have hI : In f w (index f w t) := ⟨b1, b2⟩
 have c1 := hp.2.1
 have c2 := hp.2.2.1
 rcases Int.lt_trichotomy (index f w t) i with hh | hh | hh
 ·have := later f0 hc hI h hh; omega
 ·exact hh
 ·have := later f0 hc h hI hh; omega
theorem index_in {f w t : Int} (f0 : 0 ≤ f) (hc : counts f w = true) (h0 : 0 ≤ t) (h1 : t ≤ 315537897599) : In f w (index f w t) := by
 obtain ⟨_, b1, b2⟩ := index_bd hc f0 h0 h1
 exact ⟨b1, b2⟩
theorem index_mono {f w s t : Int} (f0 : 0 ≤ f) (hc : counts f w = true) (h0 : 0 ≤ s) (hst : s ≤ t) (h1 : t ≤ 315537897599) : index f w s ≤ index f w t := by
 have hs := index_in f0 hc h0 (by omega)
 have ht := index_in f0 hc (t := t) (by omega) h1
 have ps := parts hc f0 h0 (show s ≤ 315537897599 by omega)
 have pt := parts hc f0 (show 0 ≤ t by omega) h1
 by_cases hh : index f w t < index f w s
 ·have := later f0 hc ht hs hh
  have := ps.2.1
  have := pt.2.2.1
  omega
 ·omega
end Go.Proofs.YtkbohijlhhpfbaaGreatDoor.Rs
