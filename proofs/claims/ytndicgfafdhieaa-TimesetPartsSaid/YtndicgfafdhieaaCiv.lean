/- The plain arithmetic of days: no program. -/
namespace Go.Proofs.Ytndicgfafdhieaa.Civ
def isYear (y : Int) : Bool := decide (1 ≤ y) && decide (y ≤ 9999)
def leap (y : Int) : Bool := isYear y && (decide (y % 4 = 0) && (!decide (y % 100 = 0) || decide (y % 400 = 0)))
def days (y : Int) : Int := if isYear y then (if leap y then 366 else 365) else 0
/-- the table, by the number of the month that is ahead -/
def cum (m : Int) : Int := if m ≤ 1 then 0 else if m ≤ 2 then 31 else if m ≤ 3 then 59 else if m ≤ 4 then 90 else if m ≤ 5 then 120 else if m ≤ 6 then 151 else if m ≤ 7 then 181 else if m ≤ 8 then 212 else if m ≤ 9 then 243 else if m ≤ 10 then 273 else if m ≤ 11 then 304 else if m ≤ 12 then 334 else 365
def til (y m : Int) : Int := cum m + (if 2 < m ∧ leap y = true then 1 else 0)
def len (y m : Int) : Int := if isYear y = true ∧ 1 ≤ m ∧ m ≤ 12 then til y (m + 1) - til y m else 0
def ahead (y : Int) : Int := (y - 1) * 365 + (y - 1) / 4 - (y - 1) / 100 + (y - 1) / 400
def day (y m d : Int) : Int := if d < 1 ∨ len y m < d then 0 else ahead y + til y m + d - 1
def dayE (y m d : Int) : Int := if d < 1 ∨ len y m < d then 8 else 0
/-- a day's year, and its place in that year, from 0 on -/
def cent (n : Int) : Int := if n % 146097 / 36524 ≤ 3 then n % 146097 / 36524 else 3
def rest1 (n : Int) : Int := n % 146097 - cent n * 36524
def olym (n : Int) : Int := rest1 n / 1461
def rest2 (n : Int) : Int := rest1 n % 1461
def yr (n : Int) : Int := if rest2 n / 365 ≤ 3 then rest2 n / 365 else 3
def splitY (n : Int) : Int := 1 + n / 146097 * 400 + 100 * cent n + 4 * olym n + yr n
def splitA (n : Int) : Int := rest2 n - yr n * 365
def isDay (n : Int) : Bool := decide (0 ≤ n) && decide (n ≤ 3652058)
def weekday (n : Int) : Int := if isDay n = true then n % 7 else -1
def place (n : Int) : Int := if isDay n = true then splitA n + 1 else 0
/-- the month of a place of a year -/
def month (y a : Int) : Int := if til y (a / 32 + 1 + 1) ≤ a then a / 32 + 1 + 1 else a / 32 + 1
def dateY (n : Int) : Int := if isDay n = true then splitY n else 0
def dateM (n : Int) : Int := if isDay n = true then month (splitY n) (splitA n) else 0
def dateD (n : Int) : Int := if isDay n = true then splitA n - til (splitY n) (month (splitY n) (splitA n)) + 1 else 0
def dateE (n : Int) : Int := if isDay n = true then 0 else 8
theorem cum_lo (m : Int) : 0 ≤ cum m := by unfold cum; repeat' split <;> omega
theorem cum_hi (m : Int) : cum m ≤ 365 := by unfold cum; repeat' split <;> omega

theorem isYear_iff (y : Int) : isYear y = true ↔ 1 ≤ y ∧ y ≤ 9999 := by simp [isYear]
theorem isDay_iff (n : Int) : isDay n = true ↔ 0 ≤ n ∧ n ≤ 3652058 := by simp [isDay]
theorem til_bd (y m : Int) : 0 ≤ til y m ∧ til y m ≤ 366 := by
  have c1 := cum_lo m
  have c2 := cum_hi m
  unfold til; split <;> omega
theorem month_cases {m : Int} (h1 : 1 ≤ m) (h2 : m ≤ 12) : m = 1 ∨ m = 2 ∨ m = 3 ∨ m = 4 ∨ m = 5 ∨ m = 6 ∨ m = 7 ∨ m = 8 ∨ m = 9 ∨ m = 10 ∨ m = 11 ∨ m = 12 := by omega
theorem len_eq {y m : Int} (hy : isYear y = true) (h1 : 1 ≤ m) (h2 : m ≤ 12) : len y m = if m = 2 then (if leap y = true then 29 else 28) else if m = 4 ∨ m = 6 ∨ m = 9 ∨ m = 11 then 30 else 31 := by
  rcases month_cases h1 h2 with rfl | rfl | rfl | rfl | rfl | rfl | rfl | rfl | rfl | rfl | rfl | rfl <;> cases hl : leap y <;> simp [len, hy, til, cum, hl]
theorem len_bd (y m : Int) : 0 ≤ len y m ∧ len y m ≤ 31 := by
  by_cases h : isYear y = true ∧ 1 ≤ m ∧ m ≤ 12
  · rw [len_eq h.1 h.2.1 h.2.2]; repeat' split <;> omega
  · unfold len; rw [if_neg h]; omega
theorem len_pos {y m : Int} (h : 0 < len y m) : 1 ≤ y ∧ y ≤ 9999 ∧ 1 ≤ m ∧ m ≤ 12 := by
  unfold len at h
  split at h
  · next hh => exact ⟨((isYear_iff y).1 hh.1).1, ((isYear_iff y).1 hh.1).2, hh.2⟩
  · omega
theorem len_ge {y m : Int} (h1 : 1 ≤ y) (h2 : y ≤ 9999) (h3 : 1 ≤ m) (h4 : m ≤ 12) : 28 ≤ len y m := by
  rw [len_eq ((isYear_iff y).2 ⟨h1, h2⟩) h3 h4]; repeat' split <;> omega
/-- one more in a leap year -/
def one (y : Int) : Int := if leap y = true then 1 else 0
theorem one_bd (y : Int) : 0 ≤ one y ∧ one y ≤ 1 := by unfold one; split <;> omega
theorem leap_iff {y : Int} (h1 : 1 ≤ y) (h2 : y ≤ 9999) : leap y = true ↔ y % 4 = 0 ∧ (y % 100 ≠ 0 ∨ y % 400 = 0) := by
  have := (isYear_iff y).2 ⟨h1, h2⟩
  simp [leap, this]
theorem one_eq {y : Int} (h1 : 1 ≤ y) (h2 : y ≤ 9999) : one y = if y % 4 = 0 ∧ (y % 100 ≠ 0 ∨ y % 400 = 0) then 1 else 0 := by
  unfold one
  have := leap_iff h1 h2
  by_cases hl : leap y = true
  · rw [if_pos hl, if_pos (this.1 hl)]
  · rw [if_neg hl, if_neg (fun h => hl (this.2 h))]
theorem til_one (y m : Int) : til y m = cum m + if 2 < m then one y else 0 := by
  unfold til one
  by_cases h : 2 < m <;> cases hl : leap y <;> simp [h]
theorem til_succ {y m : Int} (hy : isYear y = true) (h1 : 1 ≤ m) (h2 : m ≤ 12) : til y (m + 1) = til y m + len y m := by
  unfold len; rw [if_pos ⟨hy, h1, h2⟩]; omega
theorem til_first (y : Int) : til y 1 = 0 := by simp [til, cum]
theorem til_13 (y : Int) : til y 13 = 365 + one y := by rw [til_one]; simp [cum]
theorem days_eq {y : Int} (h1 : 1 ≤ y) (h2 : y ≤ 9999) : days y = 365 + one y := by
  unfold days one
  rw [if_pos ((isYear_iff y).2 ⟨h1, h2⟩)]; split <;> rfl
theorem ahead_succ {y : Int} (h1 : 1 ≤ y) (h2 : y ≤ 9999) : ahead (y + 1) = ahead y + 365 + one y := by
  rw [one_eq h1 h2]; unfold ahead; split <;> omega
theorem ahead_mono' (y : Int) (k : Nat) : ahead y + 365 * k ≤ ahead (y + k) := by
  induction k with
  | zero => simp
  | succ k ih =>
    have : ahead (y + k) + 365 ≤ ahead (y + k + 1) := by unfold ahead; omega
    have e : y + ((k + 1 : Nat) : Int) = y + k + 1 := by omega
    rw [e]; omega
theorem ahead_mono {y z : Int} (h : y ≤ z) : ahead y + 365 * (z - y) ≤ ahead z := by
  have := ahead_mono' y (z - y).toNat
  have e : y + (((z - y).toNat : Nat) : Int) = z := by omega
  rw [e] at this; omega
/-- a day's year is the one year that has it -/
theorem year_unique {n y z : Int} (h1 : ahead y ≤ n) (h2 : n < ahead (y + 1)) (h3 : ahead z ≤ n) (h4 : n < ahead (z + 1)) : y = z := by
  by_cases h : y < z
  · have := ahead_mono (y := y + 1) (z := z) (by omega); omega
  · by_cases h' : z < y
    · have := ahead_mono (y := z + 1) (z := y) (by omega); omega
    · omega
theorem ahead_parts {a c q k : Int} (c1 : 0 ≤ c) (c2 : c ≤ 3) (q1 : 0 ≤ q) (q2 : q ≤ 24) (k1 : 0 ≤ k) (k2 : k ≤ 3) : ahead (1 + a * 400 + 100 * c + 4 * q + k) = 146097 * a + 36524 * c + 1461 * q + 365 * k := by
  have e0 : 1 + a * 400 + 100 * c + 4 * q + k - 1 = a * 400 + 100 * c + 4 * q + k := by omega
  have e1 : (a * 400 + 100 * c + 4 * q + k) / 4 = 100 * a + 25 * c + q := by omega
  have e2 : (a * 400 + 100 * c + 4 * q + k) / 100 = 4 * a + c := by omega
  have e3 : (a * 400 + 100 * c + 4 * q + k) / 400 = a := by omega
  unfold ahead
  rw [e0, e1, e2, e3]
  omega
theorem leap_parts {a c q k : Int} (q1 : 0 ≤ q) (q2 : q ≤ 24) (hk : k = 3) (h : q = 24 → c = 3) : (1 + a * 400 + 100 * c + 4 * q + k) % 4 = 0 ∧ ((1 + a * 400 + 100 * c + 4 * q + k) % 100 ≠ 0 ∨ (1 + a * 400 + 100 * c + 4 * q + k) % 400 = 0) := by
  subst hk
  refine ⟨by omega, ?_⟩
  by_cases hq : q = 24
  · have := h hq
    subst hq; subst this
    right; omega
  · left; omega
theorem split_spec {n : Int} (h1 : 0 ≤ n) (h2 : n ≤ 3652058) : 1 ≤ splitY n ∧ splitY n ≤ 9999 ∧ 0 ≤ splitA n ∧ splitA n < 365 + one (splitY n) ∧ ahead (splitY n) + splitA n = n := by
  obtain ⟨a, ha⟩ : ∃ a, a = n / 146097 := ⟨_, rfl⟩
  obtain ⟨u, hu⟩ : ∃ u, u = n % 146097 := ⟨_, rfl⟩
  have hc : cent n = if u / 36524 ≤ 3 then u / 36524 else 3 := by unfold cent; rw [hu]
  obtain ⟨c, hcc⟩ : ∃ c, c = cent n := ⟨_, rfl⟩
  have hr1 : rest1 n = u - c * 36524 := by unfold rest1; rw [hu, hcc]
  obtain ⟨v, hv⟩ : ∃ v, v = rest1 n := ⟨_, rfl⟩
  obtain ⟨q, hq⟩ : ∃ q, q = v / 1461 := ⟨_, rfl⟩
  obtain ⟨x, hx⟩ : ∃ x, x = v % 1461 := ⟨_, rfl⟩
  have hol : olym n = q := by unfold olym; rw [hq, hv]
  have hr2 : rest2 n = x := by unfold rest2; rw [hx, hv]
  obtain ⟨k, hk⟩ : ∃ k, k = yr n := ⟨_, rfl⟩
  have hkk : k = if x / 365 ≤ 3 then x / 365 else 3 := by rw [hk]; unfold yr; rw [hr2]
  have hY : splitY n = 1 + a * 400 + 100 * c + 4 * q + k := by unfold splitY; rw [hol, ← hk, ← hcc, ha]
  have hA : splitA n = x - k * 365 := by unfold splitA; rw [hr2, ← hk]
  have a1 : 0 ≤ a ∧ a ≤ 24 := by omega
  have u1 : 0 ≤ u ∧ u < 146097 ∧ n = 146097 * a + u := by omega
  have c1 : 0 ≤ c ∧ c ≤ 3 ∧ 0 ≤ u - c * 36524 ∧ (u - c * 36524 < 36524 ∨ c = 3 ∧ u - c * 36524 = 36524) := by
    rw [hcc, hc]; split <;> omega
  have v1 : 0 ≤ v ∧ (v < 36524 ∨ c = 3 ∧ v = 36524) ∧ u = v + c * 36524 := by omega
  have q1 : 0 ≤ q ∧ q ≤ 24 ∧ v = 1461 * q + x ∧ 0 ≤ x ∧ x < 1461 := by omega
  have k1 : 0 ≤ k ∧ k ≤ 3 ∧ 0 ≤ x - k * 365 ∧ (x - k * 365 < 365 ∨ k = 3 ∧ x - k * 365 = 365) := by
    rw [hkk]; split <;> omega
  have hy2 : splitY n ≤ 9999 := by rw [hY]; omega
  have hy1 : 1 ≤ splitY n := by rw [hY]; omega
  have hah : ahead (splitY n) = 146097 * a + 36524 * c + 1461 * q + 365 * k := by rw [hY]; exact ahead_parts c1.1 c1.2.1 q1.1 q1.2.1 k1.1 k1.2.1
  obtain ⟨u2, u3, u4⟩ := u1
  obtain ⟨v2, v3, v4⟩ := v1
  obtain ⟨q2, q3, q4, q5, q6⟩ := q1
  have hsum : ahead (splitY n) + splitA n = n := by
    rw [hah, hA]
    clear hah hA hY hy1 hy2 hkk hk hr2 hol hx hq hv hr1 hcc hc hu ha c1 k1 v3 q2 q3 q5 q6 u2 u3
    omega
  refine ⟨hy1, hy2, by rw [hA]; exact k1.2.2.1, ?_, hsum⟩
  rw [one_eq hy1 hy2, hA]
  split
  · have := k1.2.2.2
    clear hah hA hY hy1 hy2 hkk hk hr2 hol hx hq hv hr1 hcc hc hu ha hsum
    omega
  · next hn =>
    rcases k1.2.2.2 with hl | ⟨k3, k4⟩
    · exact hl
    · exfalso
      apply hn
      rw [hY]
      exact leap_parts q2 q3 k3 (by clear hah hA hY hy1 hy2 hkk hk hr2 hol hx hq hv hr1 hcc hc hu ha hsum; omega)
theorem month_spec {y a : Int} (h3 : 0 ≤ a) (h4 : a < 365 + one y) : 1 ≤ month y a ∧ month y a ≤ 12 ∧ til y (month y a) ≤ a ∧ a < til y (month y a + 1) := by
  have o := one_bd y
  obtain ⟨k, hk⟩ : ∃ k, k = a / 32 := ⟨_, rfl⟩
  have hk1 : k = 0 ∨ k = 1 ∨ k = 2 ∨ k = 3 ∨ k = 4 ∨ k = 5 ∨ k = 6 ∨ k = 7 ∨ k = 8 ∨ k = 9 ∨ k = 10 ∨ k = 11 := by omega
  have hb : 32 * k ≤ a ∧ a < 32 * k + 32 := by omega
  have c1 : cum 1 = 0 := by decide
  have c2 : cum 2 = 31 := by decide
  have c3 : cum 3 = 59 := by decide
  have c4 : cum 4 = 90 := by decide
  have c5 : cum 5 = 120 := by decide
  have c6 : cum 6 = 151 := by decide
  have c7 : cum 7 = 181 := by decide
  have c8 : cum 8 = 212 := by decide
  have c9 : cum 9 = 243 := by decide
  have c10 : cum 10 = 273 := by decide
  have c11 : cum 11 = 304 := by decide
  have c12 : cum 12 = 334 := by decide
  have c13 : cum 13 = 365 := by decide
  have c14 : cum 14 = 365 := by decide
  unfold month
  rw [← hk]
  clear hk
  generalize hg : one y = g at *
  have ht : ∀ m, til y m = cum m + if 2 < m then g else 0 := fun m => by rw [til_one, hg]
  clear hg
  rcases hk1 with rfl | rfl | rfl | rfl | rfl | rfl | rfl | rfl | rfl | rfl | rfl | rfl
  all_goals
    split
    all_goals
      next hh =>
        simp only [ht, Int.reduceAdd, Int.reduceLT, if_true, if_false, c1, c2, c3, c4, c5, c6, c7, c8, c9, c10, c11, c12, c13, c14] at hh ⊢
        omega
theorem til_mono {y m k : Int} (hy : isYear y = true) (h1 : 1 ≤ m) (h2 : m ≤ k) (h3 : k ≤ 13) : til y m ≤ til y k := by
  obtain ⟨j, hj⟩ : ∃ j : Nat, k = m + j := ⟨(k - m).toNat, by omega⟩
  subst hj
  clear h2
  induction j with
  | zero => simp
  | succ j ih =>
    have := til_succ (y := y) (m := m + j) hy (by omega) (by omega)
    have := len_bd y (m + j)
    have := ih (by omega)
    have e : m + ((j + 1 : Nat) : Int) = m + j + 1 := by omega
    rw [e]; omega
theorem month_unique {y a m k : Int} (hy : isYear y = true) (m1 : 1 ≤ m) (m2 : m ≤ 12) (k1 : 1 ≤ k) (k2 : k ≤ 12) (h1 : til y m ≤ a) (h2 : a < til y (m + 1)) (h3 : til y k ≤ a) (h4 : a < til y (k + 1)) : m = k := by
  by_cases h : m < k
  · have := til_mono (y := y) (m := m + 1) (k := k) hy (by omega) (by omega) (by omega); omega
  · by_cases h' : k < m
    · have := til_mono (y := y) (m := k + 1) (k := m) hy (by omega) (by omega) (by omega); omega
    · omega
/-- A DAY's DATE IS A DATE OF THAT DAY. -/
theorem date_spec {n : Int} (h1 : 0 ≤ n) (h2 : n ≤ 3652058) : 1 ≤ dateY n ∧ dateY n ≤ 9999 ∧ 1 ≤ dateM n ∧ dateM n ≤ 12 ∧ 1 ≤ dateD n ∧ dateD n ≤ len (dateY n) (dateM n) ∧ ahead (dateY n) + til (dateY n) (dateM n) + dateD n - 1 = n := by
  have hd := (isDay_iff n).2 ⟨h1, h2⟩
  obtain ⟨s1, s2, s3, s4, s5⟩ := split_spec h1 h2
  obtain ⟨m1, m2, m3, m4⟩ := month_spec s3 s4
  have hl := til_succ ((isYear_iff _).2 ⟨s1, s2⟩) m1 m2
  unfold dateY dateM dateD
  simp only [hd, if_true]
  exact ⟨s1, s2, m1, m2, by omega, by omega, by omega⟩
/-- A DATE's DAY HAS THAT DATE, AND NO OTHER. -/
theorem date_of {y m d : Int} (h1 : 1 ≤ y) (h2 : y ≤ 9999) (h3 : 1 ≤ m) (h4 : m ≤ 12) (h5 : 1 ≤ d) (h6 : d ≤ len y m) : 0 ≤ ahead y + til y m + d - 1 ∧ ahead y + til y m + d - 1 ≤ 3652058 ∧ ahead y ≤ ahead y + til y m + d - 1 ∧ ahead y + til y m + d - 1 < ahead (y + 1) := by
  have hy := (isYear_iff _).2 ⟨h1, h2⟩
  have t0 := til_bd y m
  have t1 := til_succ hy h3 h4
  have t2 := til_mono (y := y) (m := m + 1) (k := 13) hy (by omega) (by omega) (by omega)
  have t3 := til_13 y
  have a1 := ahead_succ h1 h2
  have a0 := ahead_mono (y := 1) (z := y) h1
  have a2 := ahead_mono (y := y + 1) (z := 10000) (by omega)
  have e1 : ahead 1 = 0 := by decide
  have e2 : ahead 10000 = 3652059 := by decide
  omega
theorem date_unique {n y m d : Int} (h1 : 1 ≤ y) (h2 : y ≤ 9999) (h3 : 1 ≤ m) (h4 : m ≤ 12) (h5 : 1 ≤ d) (h6 : d ≤ len y m) (hn : ahead y + til y m + d - 1 = n) : dateY n = y ∧ dateM n = m ∧ dateD n = d := by
  have b := date_of h1 h2 h3 h4 h5 h6
  rw [hn] at b
  obtain ⟨y1, y2, m1, m2, d1, d2, e⟩ := date_spec b.1 b.2.1
  have b' := date_of y1 y2 m1 m2 d1 d2
  rw [e] at b'
  have hy := year_unique b.2.2.1 b.2.2.2 b'.2.2.1 b'.2.2.2
  generalize dateY n = z at *
  subst hy
  have yy := (isYear_iff _).2 ⟨h1, h2⟩
  have t1 := til_succ yy h3 h4
  have t2 := til_succ yy m1 m2
  have hm := month_unique (a := n - ahead y) yy h3 h4 m1 m2 (by omega) (by omega) (by omega) (by omega)
  generalize dateM n = k at *
  subst hm
  exact ⟨rfl, rfl, by omega⟩
theorem day_of {y m d : Int} (h5 : 1 ≤ d) (h6 : d ≤ len y m) : day y m d = ahead y + til y m + d - 1 ∧ dayE y m d = 0 := by
  unfold day dayE; rw [if_neg (by omega), if_neg (by omega)]; exact ⟨rfl, rfl⟩
theorem dateE_of {n : Int} (h1 : 0 ≤ n) (h2 : n ≤ 3652058) : dateE n = 0 := by
  unfold dateE; rw [if_pos ((isDay_iff n).2 ⟨h1, h2⟩)]
theorem weekday_of {n : Int} (h1 : 0 ≤ n) (h2 : n ≤ 3652058) : weekday n = n % 7 := by
  unfold weekday; rw [if_pos ((isDay_iff n).2 ⟨h1, h2⟩)]
theorem place_of {n : Int} (h1 : 0 ≤ n) (h2 : n ≤ 3652058) : place n = n - ahead (dateY n) + 1 := by
  have hd := (isDay_iff n).2 ⟨h1, h2⟩
  have := split_spec h1 h2
  unfold place dateY
  rw [if_pos hd, if_pos hd]; omega
theorem place_bd {n : Int} (h1 : 0 ≤ n) (h2 : n ≤ 3652058) : 1 ≤ place n ∧ place n ≤ 366 := by
  have hd := (isDay_iff n).2 ⟨h1, h2⟩
  have := split_spec h1 h2
  have := one_bd (splitY n)
  unfold place
  rw [if_pos hd]; omega
theorem next_day {n : Int} (h1 : 0 ≤ n) (h2 : n < 3652058) :
    dateD n < len (dateY n) (dateM n) ∧ dateY (n + 1) = dateY n ∧ dateM (n + 1) = dateM n ∧ dateD (n + 1) = dateD n + 1
    ∨ dateD n = len (dateY n) (dateM n) ∧ dateM n < 12 ∧ dateY (n + 1) = dateY n ∧ dateM (n + 1) = dateM n + 1 ∧ dateD (n + 1) = 1
    ∨ dateD n = len (dateY n) (dateM n) ∧ dateM n = 12 ∧ dateD n = 31 ∧ dateY (n + 1) = dateY n + 1 ∧ dateM (n + 1) = 1 ∧ dateD (n + 1) = 1 := by
  obtain ⟨y1, y2, m1, m2, d1, d2, de⟩ := date_spec h1 (by omega : n ≤ 3652058)
  generalize dateY n = Y at *
  generalize dateM n = M at *
  generalize dateD n = D at *
  have hy := (isYear_iff Y).2 ⟨y1, y2⟩
  have ht := til_succ hy m1 m2
  by_cases hd : D < len Y M
  · exact .inl ⟨hd, date_unique y1 y2 m1 m2 (by omega) (by omega) (by omega)⟩
  · by_cases hm : M < 12
    · have := len_ge y1 y2 (by omega : 1 ≤ M + 1) (by omega)
      exact .inr (.inl ⟨by omega, hm, date_unique y1 y2 (by omega) (by omega) (by omega) (by omega) (by omega)⟩)
    · obtain rfl : M = 12 := by omega
      have hl : len Y 12 = 31 := by rw [len_eq hy (by omega) (by omega)]; simp
      have a1 := ahead_succ y1 y2
      have t13 := til_13 Y
      have e13 : til Y (12 + 1) = til Y 13 := rfl
      have hY : Y < 9999 := by
        by_cases hh : Y = 9999
        · subst hh
          have e1 : ahead 9999 = 3651694 := by decide
          have e2 : til 9999 12 = 334 := by decide
          omega
        · omega
      have := len_ge (y := Y + 1) (by omega) (by omega) (by omega : (1 : Int) ≤ 1) (by omega)
      have t1 := til_first (Y + 1)
      exact .inr (.inr ⟨by omega, rfl, by omega, date_unique (by omega) (by omega) (by omega) (by omega) (by omega) (by omega) (by omega)⟩)
theorem leap_cycle {y : Int} (h1 : 1 ≤ y) (h2 : y ≤ 9599) : one (y + 400) = one y := by
  rw [one_eq h1 (by omega), one_eq (by omega) (by omega)]
  have e1 : (y + 400) % 4 = y % 4 := by omega
  have e2 : (y + 400) % 100 = y % 100 := by omega
  have e3 : (y + 400) % 400 = y % 400 := by omega
  rw [e1, e2, e3]
theorem len_cycle {y : Int} (m : Int) (h1 : 1 ≤ y) (h2 : y ≤ 9599) : len (y + 400) m = len y m := by
  have a := (isYear_iff y).2 ⟨h1, by omega⟩
  have b := (isYear_iff (y + 400)).2 ⟨by omega, by omega⟩
  unfold len
  rw [a, b, til_one, til_one, til_one, til_one, leap_cycle h1 h2]
theorem day_cycle {y m d : Int} (h1 : 1 ≤ y) (h2 : y ≤ 9599) (h5 : 1 ≤ d) (h6 : d ≤ len y m) : day (y + 400) m d = day y m d + 146097 := by
  rw [(day_of h5 h6).1, (day_of h5 (by rw [len_cycle m h1 h2]; exact h6)).1, til_one, til_one, leap_cycle h1 h2]
  unfold ahead
  omega
theorem last_day {y : Int} (h1 : 1 ≤ y) (h2 : y ≤ 9999) : dayE y 12 31 = 0 ∧ place (day y 12 31) = til y 13 ∧ days y = til y 13 ∧ 365 ≤ til y 13 ∧ til y 13 ≤ 366 := by
  have hy := (isYear_iff y).2 ⟨h1, h2⟩
  have hl : len y 12 = 31 := by rw [len_eq hy (by omega) (by omega)]; simp
  obtain ⟨c1, c2⟩ := day_of (y := y) (m := 12) (d := 31) (by omega) (by omega)
  have b := date_of (y := y) (m := 12) (d := 31) h1 h2 (by omega) (by omega) (by omega) (by omega)
  have u := date_unique (n := day y 12 31) (y := y) (m := 12) (d := 31) h1 h2 (by omega) (by omega) (by omega) (by omega) c1.symm
  have p := place_of (n := day y 12 31) (by omega) (by omega)
  have t1 := til_succ (y := y) (m := 12) hy (by omega) (by omega)
  have e13 : til y (12 + 1) = til y 13 := rfl
  have o := one_bd y
  have t13 := til_13 y
  have dd := days_eq h1 h2
  rw [u.1] at p
  exact ⟨c2, by omega, by omega, by omega, by omega⟩
end Go.Proofs.Ytndicgfafdhieaa.Civ
