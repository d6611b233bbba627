/- The plain law of periods: each second is in the stretch of its period, and so on. -/
import Derived.Test.YtbabmcajnmohbaaDoorPd
namespace Go.Proofs.YtbabmcajnmohbaaDoor.Pd
open Civ
theorem index_bd {f w s : Int} (hc : counts f w = true) (f0 : 0 ≤ f) (h1 : 0 ≤ s) (h2 : s ≤ 315537897599) : 0 ≤ index f w s ∧ index f w 0 ≤ index f w s ∧ index f w s ≤ last f w := by
  obtain ⟨c1, c2, c3⟩ := (counts_iff f w).1 hc
  have l := idx_lo hc f0
  have h := idx_hi hc f0
  rw [l, h, index_of hc h1 h2]
  clear l h
  have b := Wk.back_bd (s / 86400) w
  have b0 : Wk.back (s / 86400) w = (s / 86400 - w) % 7 := rfl
  have bl : Wk.back 3652058 w = (3652058 - w) % 7 := rfl
  have d1 : 0 ≤ s / 86400 := by omega
  have d2 : s / 86400 ≤ 3652058 := by omega
  obtain ⟨y1, y2, m1, m2, _, _, _⟩ := date_spec d1 d2
  have hf : f = 0 ∨ f = 1 ∨ f = 2 ∨ f = 3 ∨ f = 4 ∨ f = 5 ∨ f = 6 := by omega
  rcases hf with rfl | rfl | rfl | rfl | rfl | rfl | rfl
  · simp [num, unit]; omega
  · simp [num, unit]; omega
  · simp [num, unit]; omega
  · simp [num, unit]; omega
  · simp only [num, Int.reduceLE, Int.reduceEq, if_true, if_false]
    split <;> omega
  · simp only [num, Int.reduceLE, Int.reduceEq, if_true, if_false]
    omega
  · simp only [num, Int.reduceLE, Int.reduceEq, if_false]
    omega
theorem dateY_eq {d a : Int} (h1 : 0 ≤ d) (h2 : d ≤ 3652058) (h3 : ahead a ≤ d) (h4 : d < ahead (a + 1)) : dateY d = a := by
  obtain ⟨y1, y2, m1, m2, d1, d2, e⟩ := date_spec h1 h2
  have b := date_of y1 y2 m1 m2 d1 d2
  rw [e] at b
  exact Civ.year_unique b.2.2.1 b.2.2.2 h3 h4
/-- what is to be shown of a period -/
def Part (f w i s a b : Int) : Prop := 0 ≤ a ∧ a ≤ s ∧ s < b ∧ b ≤ 315537897600 ∧ (b ≤ 315537897599 → index f w b = i + 1) ∧ (0 < a → index f w (a - 1) = i - 1) ∧ (b = 315537897600 ↔ i = last f w) ∧ index f w (b - 1) = i
theorem part_short {f w s u : Int} (hc : counts f w = true) (f3 : f ≤ 3) (hu : unit f = u) (hu' : u = 1 ∨ u = 60 ∨ u = 3600 ∨ u = 86400) (hl : last f w = 315537897599 / u) (h1 : 0 ≤ s) (h2 : s ≤ 315537897599) : Part f w (s / u) s (s / u * u) ((s / u + 1) * u) := by
  have hn : ∀ t, 0 ≤ t → t ≤ 315537897599 → index f w t = t / u := fun t a b => by rw [index_of hc a b]; unfold num; rw [if_pos f3, hu]
  unfold Part
  rw [hl]
  rcases hu' with rfl | rfl | rfl | rfl
  all_goals
    refine ⟨by omega, by omega, by omega, by omega, fun h => ?_, fun h => ?_, by omega, ?_⟩
    · rw [hn _ (by omega) h]; omega
    · rw [hn _ (by omega) (by omega)]; omega
    · rw [hn _ (by omega) (by omega)]; omega
theorem part_week {w s : Int} (hc : counts 4 w = true) (h1 : 0 ≤ s) (h2 : s ≤ 315537897599) : Part 4 w (index 4 w s) s (lo (day0 4 w (index 4 w s))) (hi (day1 4 w (index 4 w s))) := by
  have hn : ∀ t, 0 ≤ t → t ≤ 315537897599 → index 4 w t = (t / 86400 - Wk.back (t / 86400) w - w) / 7 + 1 := fun t a b => by rw [index_of hc a b]; simp [num]
  have hl : last 4 w = (3652058 - Wk.back 3652058 w - w) / 7 + 1 := by rw [idx_hi hc (by omega)]; simp
  obtain ⟨d, hd⟩ : ∃ d, d = s / 86400 := ⟨_, rfl⟩
  obtain ⟨B, hB⟩ : ∃ B, B = d - Wk.back d w := ⟨_, rfl⟩
  have hb : Wk.back d w = (d - w) % 7 := rfl
  have hbl : Wk.back 3652058 w = (3652058 - w) % 7 := rfl
  have hi' : index 4 w s = (B - w) / 7 + 1 := by rw [hn s h1 h2, ← hd, hB]
  have hm : (B - w) % 7 = 0 := by omega
  have h0 : day0 4 w (index 4 w s) = B := by rw [hi']; simp [day0]; omega
  have h7 : day1 4 w (index 4 w s) = B + 7 := by rw [hi']; simp [day1]; omega
  rw [h0, h7, hi']
  unfold Part
  rw [hl]
  have hk : ∀ t k, 0 ≤ t → t ≤ 315537897599 → t / 86400 = B + k → index 4 w t = (B + k - (B + k - w) % 7 - w) / 7 + 1 := fun t k a b c => by rw [hn t a b, c]; rfl
  unfold lo hi
  split
  · next c0 =>
    split
    · next c1 =>
      refine ⟨by omega, by omega, by omega, by omega, fun h => ?_, fun h => ?_, by omega, ?_⟩
      · rw [hk _ 7 (by omega) h (by omega)]; omega
      · rw [hk _ (-1) (by omega) (by omega) (by omega)]; omega
      · rw [hk _ 6 (by omega) (by omega) (by omega)]; omega
    · next c1 =>
      refine ⟨by omega, by omega, by omega, by omega, fun h => ?_, fun h => ?_, by omega, ?_⟩
      · omega
      · rw [hk _ (-1) (by omega) (by omega) (by omega)]; omega
      · rw [hk _ (3652058 - B) (by omega) (by omega) (by omega)]; omega
  · next c0 =>
    split
    · next c1 =>
      refine ⟨by omega, by omega, by omega, by omega, fun h => ?_, fun h => ?_, by omega, ?_⟩
      · rw [hk _ 7 (by omega) h (by omega)]; omega
      · omega
      · rw [hk _ 6 (by omega) (by omega) (by omega)]; omega
    · omega
theorem part_days {f w s i F G : Int} (hF : 0 ≤ F) (hG : G ≤ 3652059) (hs1 : F ≤ s / 86400) (hs2 : s / 86400 < G)
    (hb : ∀ t, index f w t = if 0 ≤ t ∧ t ≤ 315537897599 then index f w (t / 86400 * 86400) else -1) (hnext : G ≤ 3652058 → index f w (G * 86400) = i + 1) (hprev : 0 < F → index f w ((F - 1) * 86400) = i - 1) (hlast : G = 3652059 ↔ i = last f w) (hend : index f w ((G - 1) * 86400) = i) : Part f w i s (lo F) (hi G) := by
  have e1 : lo F = F * 86400 := by unfold lo; rw [if_pos hF]
  have e2 : hi G = G * 86400 := by unfold hi; split <;> omega
  rw [e1, e2]
  unfold Part
  refine ⟨by omega, by omega, by omega, by omega, fun h => hnext (by omega), fun h => ?_, ?_, ?_⟩
  · rw [hb, if_pos ⟨by omega, by omega⟩, show (F * 86400 - 1) / 86400 = F - 1 by omega]
    exact hprev (by omega)
  · rw [← hlast]; omega
  · rw [hb, if_pos ⟨by omega, by omega⟩, show (G * 86400 - 1) / 86400 = G - 1 by omega]
    exact hend
theorem index_day {f w : Int} (hc : counts f w = true) (f4 : ¬ f ≤ 3) (t : Int) : index f w t = if 0 ≤ t ∧ t ≤ 315537897599 then index f w (t / 86400 * 86400) else -1 := by
  by_cases ht : 0 ≤ t ∧ t ≤ 315537897599
  · rw [if_pos ht, index_of hc ht.1 ht.2, index_of hc (by omega) (by omega)]
    have e : t / 86400 * 86400 / 86400 = t / 86400 := by omega
    unfold num
    rw [if_neg f4, if_neg f4, e]
  · rw [if_neg ht]; unfold index; rw [if_neg (fun h => ht h.2)]
theorem part_year {w s : Int} (hc : counts 6 w = true) (h1 : 0 ≤ s) (h2 : s ≤ 315537897599) : Part 6 w (index 6 w s) s (lo (day0 6 w (index 6 w s))) (hi (day1 6 w (index 6 w s))) := by
  have hn : ∀ d, 0 ≤ d → d ≤ 3652058 → index 6 w (d * 86400) = dateY d := fun d a b => by
    rw [index_of hc (by omega) (by omega), show num 6 w (d * 86400) = dateY (d * 86400 / 86400) by simp [num], show d * 86400 / 86400 = d by omega]
  have hi0 : index 6 w s = dateY (s / 86400) := by rw [index_of hc h1 h2]; simp [num]
  have hl : last 6 w = 9999 := by rw [idx_hi hc (by omega)]; simp
  obtain ⟨y1, y2, m1, m2, d1, d2, e⟩ := date_spec (n := s / 86400) (by omega) (by omega)
  have b := date_of y1 y2 m1 m2 d1 d2
  rw [e] at b
  rw [hi0]
  generalize dateY (s / 86400) = y at *
  have ld := len_ge (y := y) (m := 1) y1 y2 (by omega) (by omega)
  have hd := (day_of (y := y) (m := 1) (d := 1) (by omega) (by omega)).1
  rw [til_first] at hd
  have ha := ahead_succ y1 y2
  have hy := days_eq y1 y2
  have o := one_bd y
  have g1 := ahead_mono (y := 1) (z := y) y1
  have g2 := ahead_mono (y := y + 1) (z := 10000) (by omega)
  have e1 : ahead 1 = 0 := by decide
  have e2 : ahead 10000 = 3652059 := by decide
  have hd0 : day0 6 w y = ahead y := by simp only [day0, Int.reduceEq, if_false]; omega
  have hd1 : day1 6 w y = ahead (y + 1) := by simp only [day1, Int.reduceEq, if_false]; omega
  rw [hd0, hd1]
  refine part_days (by omega) (by omega) b.2.2.1 b.2.2.2 (index_day hc (by omega)) (fun h => ?_) (fun h => ?_) ?_ ?_
  · rw [hn _ (by omega) h]
    have hy9 : y ≤ 9998 := by
      by_cases hh : y = 9999
      · subst hh; have : ahead (9999 + 1) = ahead 10000 := rfl; omega
      · omega
    have := ahead_succ (y := y + 1) (by omega) (by omega)
    have := one_bd (y + 1)
    exact dateY_eq (by omega) h (by omega) (by omega)
  · rw [hn _ (by omega) (by omega)]
    have hy9 : 2 ≤ y := by
      by_cases hh : y = 1
      · subst hh; omega
      · omega
    have hs := ahead_succ (y := y - 1) (by omega) (by omega)
    have := one_bd (y - 1)
    have ee : y - 1 + 1 = y := by omega
    rw [ee] at hs
    exact dateY_eq (by omega) (by omega) (by omega) (by rw [ee]; omega)
  · rw [hl]
    constructor
    · intro h
      by_cases hh : y = 9999
      · exact hh
      · have := ahead_mono (y := y + 1) (z := 9999) (by omega)
        have e3 : ahead 9999 = 3651694 := by decide
        omega
    · rintro rfl
      exact e2
  · rw [hn _ (by omega) (by omega)]
    exact dateY_eq (by omega) (by omega) (by omega) (by omega)
theorem part_month {w s : Int} (hc : counts 5 w = true) (h1 : 0 ≤ s) (h2 : s ≤ 315537897599) : Part 5 w (index 5 w s) s (lo (day0 5 w (index 5 w s))) (hi (day1 5 w (index 5 w s))) := by
  have hn : ∀ d, 0 ≤ d → d ≤ 3652058 → index 5 w (d * 86400) = dateY d * 12 + dateM d - 1 := fun d a b => by
    rw [index_of hc (by omega) (by omega), show num 5 w (d * 86400) = dateY (d * 86400 / 86400) * 12 + dateM (d * 86400 / 86400) - 1 by simp [num], show d * 86400 / 86400 = d by omega]
  have hi0 : index 5 w s = dateY (s / 86400) * 12 + dateM (s / 86400) - 1 := by rw [index_of hc h1 h2]; simp [num]
  have hl : last 5 w = 119999 := by rw [idx_hi hc (by omega)]; simp
  obtain ⟨y1, y2, m1, m2, d1, d2, e⟩ := date_spec (n := s / 86400) (by omega) (by omega)
  rw [hi0]
  generalize dateY (s / 86400) = y at *
  generalize dateM (s / 86400) = m at *
  generalize dateD (s / 86400) = dd at *
  have ld := len_ge (y := y) (m := m) y1 y2 m1 m2
  have hd := (day_of (y := y) (m := m) (d := 1) (by omega) (by omega)).1
  have q1 : (y * 12 + m - 1) / 12 = y := by omega
  have q2 : (y * 12 + m - 1) % 12 + 1 = m := by omega
  obtain ⟨F, hF⟩ : ∃ F, F = ahead y + til y m := ⟨_, rfl⟩
  have hd0 : day0 5 w (y * 12 + m - 1) = F := by simp only [day0, q1, q2, Int.reduceEq, if_false, if_true]; omega
  have hd1 : day1 5 w (y * 12 + m - 1) = F + len y m := by simp only [day1, q1, q2, Int.reduceEq, if_false, if_true]; omega
  rw [hd0, hd1]
  have b1 := date_of (y := y) (m := m) (d := 1) y1 y2 m1 m2 (by omega) (by omega)
  have b2 := date_of (y := y) (m := m) (d := len y m) y1 y2 m1 m2 (by omega) (by omega)
  have u1 := date_unique (n := F) (y := y) (m := m) (d := 1) y1 y2 m1 m2 (by omega) (by omega) (by omega)
  have u2 := date_unique (n := F + len y m - 1) (y := y) (m := m) (d := len y m) y1 y2 m1 m2 (by omega) (by omega) (by omega)
  refine part_days (by omega) (by omega) (by omega) (by omega) (index_day hc (by omega)) (fun h => ?_) (fun h => ?_) ?_ ?_
  · rw [hn _ (by omega) h]
    have nx := next_day (n := F + len y m - 1) (by omega) (by omega)
    rw [show F + len y m - 1 + 1 = F + len y m by omega, u2.1, u2.2.1, u2.2.2] at nx
    rcases nx with ⟨a, _⟩ | ⟨_, _, a, b, _⟩ | ⟨_, a, _, b, c, _⟩
    · omega
    · rw [a, b]; omega
    · rw [b, c]; omega
  · rw [hn _ (by omega) (by omega)]
    have nx := next_day (n := F - 1) (by omega) (by omega)
    rw [show F - 1 + 1 = F by omega, u1.1, u1.2.1, u1.2.2] at nx
    obtain ⟨_, _, _, _, d1', _, _⟩ := date_spec (n := F - 1) (by omega) (by omega)
    rcases nx with ⟨_, _, _, a⟩ | ⟨_, _, a, b, _⟩ | ⟨_, a, _, b, c, _⟩
    · omega
    · rw [← a]; omega
    · omega
  · rw [hl]
    constructor
    · intro h
      have e1 : F + len y m - 1 = 3652058 := by omega
      rw [e1, dateY_l, dateM_l] at u2
      omega
    · intro h
      have hy : y = 9999 := by omega
      have hm : m = 12 := by omega
      subst hy; subst hm
      have e1 : len 9999 12 = 31 := by decide
      have e2 : ahead 9999 = 3651694 := by decide
      have e3 : til 9999 12 = 334 := by decide
      omega
  · rw [hn _ (by omega) (by omega), u2.1, u2.2.1]
theorem parts {f w s : Int} (hc : counts f w = true) (f0 : 0 ≤ f) (h1 : 0 ≤ s) (h2 : s ≤ 315537897599) : Part f w (index f w s) s (frm f w (index f w s)) (to f w (index f w s)) := by
  obtain ⟨c1, c2, c3⟩ := (counts_iff f w).1 hc
  obtain ⟨i0, i1, i2⟩ := index_bd hc f0 h1 h2
  have hF : frm f w (index f w s) = if f ≤ 3 then index f w s * unit f else lo (day0 f w (index f w s)) := by unfold frm; rw [if_pos ⟨hc, i1, i2⟩]
  have hL : to f w (index f w s) = if f ≤ 3 then (index f w s + 1) * unit f else hi (day1 f w (index f w s)) := by unfold to; rw [if_pos ⟨hc, i1, i2⟩]
  rw [hF, hL]
  have hl := idx_hi hc f0
  have hf : f = 0 ∨ f = 1 ∨ f = 2 ∨ f = 3 ∨ f = 4 ∨ f = 5 ∨ f = 6 := by omega
  rcases hf with rfl | rfl | rfl | rfl | rfl | rfl | rfl
  · have hi' : index 0 w s = s / 1 := by rw [index_of hc h1 h2]; simp [num, unit]
    rw [if_pos (by omega), if_pos (by omega), hi']
    exact part_short (u := 1) hc (by omega) rfl (by omega) (by rw [hl]; simp) h1 h2
  · have hi' : index 1 w s = s / 60 := by rw [index_of hc h1 h2]; simp [num, unit]
    rw [if_pos (by omega), if_pos (by omega), hi']
    exact part_short (u := 60) hc (by omega) rfl (by omega) (by rw [hl]; simp) h1 h2
  · have hi' : index 2 w s = s / 3600 := by rw [index_of hc h1 h2]; simp [num, unit]
    rw [if_pos (by omega), if_pos (by omega), hi']
    exact part_short (u := 3600) hc (by omega) rfl (by omega) (by rw [hl]; simp) h1 h2
  · have hi' : index 3 w s = s / 86400 := by rw [index_of hc h1 h2]; simp [num, unit]
    rw [if_pos (by omega), if_pos (by omega), hi']
    exact part_short (u := 86400) hc (by omega) rfl (by omega) (by rw [hl]; simp) h1 h2
  · rw [if_neg (by omega), if_neg (by omega)]; exact part_week hc h1 h2
  · rw [if_neg (by omega), if_neg (by omega)]; exact part_month hc h1 h2
  · rw [if_neg (by omega), if_neg (by omega)]; exact part_year hc h1 h2
theorem step_ok {n m k : Int} (n1 : 0 ≤ n) (n2 : n ≤ 4294967295) (m1 : 0 ≤ m) (m2 : m ≤ 4294967295) (k1 : 1 ≤ k) (k2 : k ≤ 1000) :
    n ≤ step n k m ∧ m ≤ step n k m ∧ (step n k m = n ∨ step n k m - m < k) ∧ (step n k m - n) % k = 0 ∧ step n k (step n k m) = step n k m ∧ step n k m ≤ 9999999999 := by
  by_cases h : m ≤ n
  · have e : step n k m = n := by unfold step; rw [if_neg (by omega), if_pos h]
    have e' : step n k n = n := by unfold step; rw [if_neg (by omega), if_pos (by omega)]
    rw [e]
    exact ⟨by omega, h, .inl rfl, by rw [Int.sub_self]; exact Int.zero_emod k, e', by omega⟩
  · have e : step n k m = n + (m - n + k - 1) / k * k := by unfold step; rw [if_neg (by omega), if_neg h]
    have b := up_bd (p := m - n) (k := k) (by omega) (by omega)
    have hm : (n + (m - n + k - 1) / k * k - n) % k = 0 := by
      rw [show n + (m - n + k - 1) / k * k - n = (m - n + k - 1) / k * k by omega]
      exact Int.mul_emod_left _ _
    rw [e]
    refine ⟨by omega, by omega, .inr (by omega), hm, ?_, by omega⟩
    generalize (m - n + k - 1) / k * k = q at *
    unfold step
    rw [if_neg (by omega), if_neg (by omega), up_zero (by omega) hm]
    omega
end Go.Proofs.YtbabmcajnmohbaaDoor.Pd
