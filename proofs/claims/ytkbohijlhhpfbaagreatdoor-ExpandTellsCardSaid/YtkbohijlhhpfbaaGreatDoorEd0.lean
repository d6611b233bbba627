import Derived.Test.YtkbohijlhhpfbaaGreatDoorEb
import Derived.Test.YtkbohijlhhpfbaaGreatDoorWr
import Derived.Deep.DeepCutAuto
/- The walk through errandref23's untold (printed by gen_untold.py). -/
namespace Go.Proofs.YtkbohijlhhpfbaaGreatDoor.Da
open Go.RowKit Ru Ut Cw Ra
theorem like_1' {r : R} {s f : Dy.F} (h : r.freq < 4 ∨ 0 < r.yday.length + r.mday.length + r.day.length) : Dy.likeStart r s f = true := by unfold Dy.likeStart; rw [if_pos h]
theorem like_2' {r : R} {s f : Dy.F} (h : ¬ (r.freq < 4 ∨ 0 < r.yday.length + r.mday.length + r.day.length)) (h2 : r.freq = 4 ∨ 0 < r.weekno.length) : Dy.likeStart r s f = (f.weekday == s.weekday) := by unfold Dy.likeStart; rw [if_neg h, if_pos h2]; by_cases h : f.weekday = s.weekday <;> simp [h]
theorem like_3' {r : R} {s f : Dy.F} (h : ¬ (r.freq < 4 ∨ 0 < r.yday.length + r.mday.length + r.day.length)) (h2 : ¬ (r.freq = 4 ∨ 0 < r.weekno.length)) (h3 : r.freq = 5 ∨ 0 < r.month.length) : Dy.likeStart r s f = (f.date == s.date) := by unfold Dy.likeStart; rw [if_neg h, if_neg h2, if_pos h3]; by_cases h : f.date = s.date <;> simp [h]
theorem like_4' {r : R} {s f : Dy.F} (h : ¬ (r.freq < 4 ∨ 0 < r.yday.length + r.mday.length + r.day.length)) (h2 : ¬ (r.freq = 4 ∨ 0 < r.weekno.length)) (h3 : ¬ (r.freq = 5 ∨ 0 < r.month.length)) : Dy.likeStart r s f = ((f.date == s.date) && (f.month == s.month)) := by
  unfold Dy.likeStart; rw [if_neg h, if_neg h2, if_neg h3]
  by_cases h : f.date = s.date <;> by_cases h' : f.month = s.month <;> simp [h, h']
set_option maxHeartbeats 8000000 in
set_option maxRecDepth 100000 in
theorem untold_any (w : World) (r : R) (sv : Nat → Value) (m n : Int) (hm : Civ.isDay m = true) (hd : Civ.isDay n = true) (hL : Lists w r sv) (hn : Short r) : Calls Tryz.prog 165 #[ruleV r sv, .int .i64 m, .int .i64 n] w fun e w' => e = .returned (.bool (Dy.likeStart r (Dy.about m) (Dy.about n))) ∧ Below w.heap.size w w' := by
  obtain ⟨f, hf⟩ : ∃ f, Dy.about n = f := ⟨_, rfl⟩
  obtain ⟨s, hs⟩ : ∃ s, Dy.about m = s := ⟨_, rfl⟩
  have FW := rWeekday_any n
  have FV := rWeekday_any m
  have FD := rDate_any n
  have FE := rDate_any m
  rw [show Civ.weekday n = f.weekday by rw [← hf, about_at hd]] at FW
  rw [show Civ.weekday m = s.weekday by rw [← hs, about_at hm]] at FV
  rw [show Civ.dateM n = f.month by rw [← hf, about_at hd], show Civ.dateD n = f.date by rw [← hf, about_at hd]] at FD
  rw [show Civ.dateM m = s.month by rw [← hs, about_at hm], show Civ.dateD m = s.date by rw [← hs, about_at hm]] at FE
  generalize Civ.dateY n = y1 at FD
  generalize Civ.dateE n = x1 at FD
  generalize Civ.dateY m = y2 at FE
  generalize Civ.dateE m = x2 at FE
  rw [hf, hs]
  clear hf hs hm hd
  replace FW := Lib.hid FW
  replace FV := Lib.hid FV
  replace FD := Lib.hid FD
  replace FE := Lib.hid FE
  have n7 := hn.2
  have n8 : r.mday.length ≤ 1000 := hn.1 8 (by decide) (by decide) (by decide)
  have n9 : r.yday.length ≤ 1000 := hn.1 9 (by decide) (by decide) (by decide)
  have n10 : r.weekno.length ≤ 1000 := hn.1 10 (by decide) (by decide) (by decide)
  have n11 : r.month.length ≤ 1000 := hn.1 11 (by decide) (by decide) (by decide)
  obtain ⟨a7, k7, e7⟩ := hL.2.slice
  obtain ⟨a8, k8, e8⟩ := (hL.1 8 (by decide) (by decide) (by decide)).slice
  change sv 8 = .slice a8 r.mday.length k8 at e8
  obtain ⟨a9, k9, e9⟩ := (hL.1 9 (by decide) (by decide) (by decide)).slice
  change sv 9 = .slice a9 r.yday.length k9 at e9
  obtain ⟨a10, k10, e10⟩ := (hL.1 10 (by decide) (by decide) (by decide)).slice
  change sv 10 = .slice a10 r.weekno.length k10 at e10
  obtain ⟨a11, k11, e11⟩ := (hL.1 11 (by decide) (by decide) (by decide)).slice
  change sv 11 = .slice a11 r.month.length k11 at e11
  unfold ruleV ruleC
  rw [e7, e8, e9, e10, e11]
  clear e7 e8 e9 e10 e11 hL hn
  by_cases h0 : 0 < r.yday.length
  · have hr := Lib.hid (like_1' (r := r) (s := s) (f := f) (.inr (by omega)))
    go_enter Tryz.func165, Tryz.ntmps165
    go_wp2
    go_ret
    exact ⟨ret_b hr.out.symm, by (repeat' (first | assumption | exact Below.refl _ _ | apply Below.next_alloc | apply Below.drew | (apply Below.next; rotate_left; assumption)))⟩
  by_cases h1 : 0 < r.mday.length
  · have hr := Lib.hid (like_1' (r := r) (s := s) (f := f) (.inr (by omega)))
    go_enter Tryz.func165, Tryz.ntmps165
    go_wp2
    go_ret
    exact ⟨ret_b hr.out.symm, by (repeat' (first | assumption | exact Below.refl _ _ | apply Below.next_alloc | apply Below.drew | (apply Below.next; rotate_left; assumption)))⟩
  by_cases h2 : 0 < r.day.length
  · have hr := Lib.hid (like_1' (r := r) (s := s) (f := f) (.inr (by omega)))
    go_enter Tryz.func165, Tryz.ntmps165
    go_wp2
    go_ret
    exact ⟨ret_b hr.out.symm, by (repeat' (first | assumption | exact Below.refl _ _ | apply Below.next_alloc | apply Below.drew | (apply Below.next; rotate_left; assumption)))⟩
  by_cases h3 : r.freq < 4
  · have hr := Lib.hid (like_1' (r := r) (s := s) (f := f) (.inl h3))
    go_enter Tryz.func165, Tryz.ntmps165
    go_wp2
    go_ret
    exact ⟨ret_b hr.out.symm, by (repeat' (first | assumption | exact Below.refl _ _ | apply Below.next_alloc | apply Below.drew | (apply Below.next; rotate_left; assumption)))⟩
  have hn := Lib.hid (show ¬ (r.freq < 4 ∨ 0 < r.yday.length + r.mday.length + r.day.length) by omega)
  by_cases h4 : r.freq = 4
  · have q4 : (r.freq == 4) = true := by simp [h4]
    have hr := Lib.hid (like_2' (r := r) (s := s) (f := f) hn.out (.inl h4))
    clear h4
    go_enter Tryz.func165, Tryz.ntmps165
    go_wp2_with (first
      | (go_at_call 182; (with_reducible refine (FW.out _).mono ?_); rintro e w' ⟨rfl, rfl⟩; clear FW)
      | (go_at_call 182; (with_reducible refine (FV.out _).mono ?_); rintro e w' ⟨rfl, rfl⟩))
    go_ret
    exact ⟨ret_b hr.out.symm, by (repeat' (first | assumption | exact Below.refl _ _ | apply Below.next_alloc | apply Below.drew | (apply Below.next; rotate_left; assumption)))⟩
  have q4 : (r.freq == 4) = false := by simp [h4]
  by_cases h5 : 0 < r.weekno.length
  · have hr := Lib.hid (like_2' (r := r) (s := s) (f := f) hn.out (.inr (by omega)))
    clear h4
    go_enter Tryz.func165, Tryz.ntmps165
    go_wp2_with (first
      | (go_at_call 182; (with_reducible refine (FW.out _).mono ?_); rintro e w' ⟨rfl, rfl⟩; clear FW)
      | (go_at_call 182; (with_reducible refine (FV.out _).mono ?_); rintro e w' ⟨rfl, rfl⟩))
    go_ret
    exact ⟨ret_b hr.out.symm, by (repeat' (first | assumption | exact Below.refl _ _ | apply Below.next_alloc | apply Below.drew | (apply Below.next; rotate_left; assumption)))⟩
  have hn2 := Lib.hid (show ¬ (r.freq = 4 ∨ 0 < r.weekno.length) by omega)
  clear h4
  by_cases h6 : r.freq = 5
  · have q6 : (r.freq == 5) = true := by simp [h6]
    have hr := like_3' (r := r) (s := s) (f := f) hn.out hn2.out (.inl h6)
    clear h6
    cases g : (f.date == s.date)
    all_goals
      rw [g] at hr
      replace hr := Lib.hid hr
      go_enter Tryz.func165, Tryz.ntmps165
      go_wp2_with (first
        | (go_at_call 114; (with_reducible refine (FD.out _).mono ?_); rintro e w' ⟨rfl, rfl⟩; clear FD)
        | (go_at_call 114; (with_reducible refine (FE.out _).mono ?_); rintro e w' ⟨rfl, rfl⟩))
      go_ret
      exact ⟨ret_b hr.out.symm, by (repeat' (first | assumption | exact Below.refl _ _ | apply Below.next_alloc | apply Below.drew | (apply Below.next; rotate_left; assumption)))⟩
  have q6 : (r.freq == 5) = false := by simp [h6]
  by_cases h7 : 0 < r.month.length
  · have hr := like_3' (r := r) (s := s) (f := f) hn.out hn2.out (.inr (by omega))
    clear h6
    cases g : (f.date == s.date)
    all_goals
      rw [g] at hr
      replace hr := Lib.hid hr
      go_enter Tryz.func165, Tryz.ntmps165
      go_wp2_with (first
        | (go_at_call 114; (with_reducible refine (FD.out _).mono ?_); rintro e w' ⟨rfl, rfl⟩; clear FD)
        | (go_at_call 114; (with_reducible refine (FE.out _).mono ?_); rintro e w' ⟨rfl, rfl⟩))
      go_ret
      exact ⟨ret_b hr.out.symm, by (repeat' (first | assumption | exact Below.refl _ _ | apply Below.next_alloc | apply Below.drew | (apply Below.next; rotate_left; assumption)))⟩
  have hr := like_4' (r := r) (s := s) (f := f) hn.out hn2.out (by omega)
  clear h6
  cases g : (f.date == s.date)
  · rw [g, Bool.false_and] at hr
    replace hr := Lib.hid hr
    go_enter Tryz.func165, Tryz.ntmps165
    go_wp2_with (first
      | (go_at_call 114; (with_reducible refine (FD.out _).mono ?_); rintro e w' ⟨rfl, rfl⟩; clear FD)
      | (go_at_call 114; (with_reducible refine (FE.out _).mono ?_); rintro e w' ⟨rfl, rfl⟩))
    go_ret
    exact ⟨ret_b hr.out.symm, by (repeat' (first | assumption | exact Below.refl _ _ | apply Below.next_alloc | apply Below.drew | (apply Below.next; rotate_left; assumption)))⟩
  · rw [g, Bool.true_and] at hr
    cases g2 : (f.month == s.month)
    all_goals
      rw [g2] at hr
      replace hr := Lib.hid hr
      go_enter Tryz.func165, Tryz.ntmps165
      go_wp2_with (first
        | (go_at_call 114; (with_reducible refine (FD.out _).mono ?_); rintro e w' ⟨rfl, rfl⟩; clear FD)
        | (go_at_call 114; (with_reducible refine (FE.out _).mono ?_); rintro e w' ⟨rfl, rfl⟩))
      go_ret
      exact ⟨ret_b hr.out.symm, by (repeat' (first | assumption | exact Below.refl _ _ | apply Below.next_alloc | apply Below.drew | (apply Below.next; rotate_left; assumption)))⟩
end Go.Proofs.YtkbohijlhhpfbaaGreatDoor.Da

/- The walk through errandref23's lets (printed by gen_rlets.py). -/
namespace Go.Proofs.YtkbohijlhhpfbaaGreatDoor.Da
open Go.RowKit Ru Ut Cw Ra
theorem has_both {l : List Int} {a n : Int} : Dy.has l a (a - n - 1) = (decide (l.length = 0) || both l a n) := rfl
theorem has_same {l : List Int} {a : Int} : Dy.has l a a = (decide (l.length = 0) || decide (a ∈ l)) := by unfold Dy.has; rw [Bool.or_self]
theorem or_pos {n : Nat} {b : Bool} (h : 0 < n) : (decide (n = 0) || b) = b := by rw [decide_eq_false (by omega)]; rfl
theorem or_zero {n : Nat} {b : Bool} (h : ¬ 0 < n) : (decide (n = 0) || b) = true := by rw [decide_eq_true (by omega)]; rfl
theorem lets_eq' (r : R) (s f : Dy.F) {b1 b2 b3 b4 b5 b6 : Bool} (g1 : Dy.has r.month f.month f.month = b1) (g2 : Dy.has r.yday f.place (f.place - f.inYear - 1) = b2) (g3 : Dy.has r.mday f.date (f.date - f.inMonth - 1) = b3) (g4 : Dy.has r.weekno (Wk.numN f.day r.wkst) (Wk.backN f.day r.wkst) = b4) (g5 : Dy.onDay r f = b5) (g6 : Dy.likeStart r s f = b6) :
    Dy.lets r s f = ((b1 && (b2 && b3)) && ((decide (r.weekno.length = 0) || b4) && (b5 && b6))) := by unfold Dy.lets; rw [g1, g2, g3, g4, g5, g6]
end Go.Proofs.YtkbohijlhhpfbaaGreatDoor.Da

