import Derived.Test.YtkbohijlhhpfbaaGreatDoorVRo
import Derived.Test.YtkbohijlhhpfbaaGreatDoorVPr
import Derived.Deep.DeepCutAuto
import Derived.Test.YtkbohijlhhpfbaaGreatDoorVRq
import Derived.Test.YtkbohijlhhpfbaaGreatDoorVRj
/- The walk through errandref23's untold (printed by gen_untold.py). -/
namespace Go.Proofs.YtkbohijlhhpfbaaGreatDoor.Da
open Go.RowKit Ru Ut Cw Ra
theorem like_1' {r : R} {s f : Dy.F} (h : r.freq < 4 ∨ 0 < r.yday.length + r.mday.length + r.day.length) : Dy.likeStart r s f = true := by unfold Dy.likeStart; rw [if_pos h]
theorem like_2' {r : R} {s f : Dy.F} (h : ¬ (r.freq < 4 ∨ 0 < r.yday.length + r.mday.length + r.day.length)) (h2 : r.freq = 4 ∨ 0 < r.weekno.length) : Dy.likeStart r s f = (f.weekday == s.weekday) := by unfold Dy.likeStart; rw [if_neg h, if_pos h2]; by_cases h : f.weekday = s.weekday <;> simp [h]
theorem like_3' {r : R} {s f : Dy.F} (h : ¬ (r.freq < 4 ∨ 0 < r.yday.length + r.mday.length + r.day.length)) (h2 : ¬ (r.freq = 4 ∨ 0 < r.weekno.length)) (h3 : r.freq = 5 ∨ 0 < r.month.length) : Dy.likeStart r s f = (f.date == s.date) := by unfold Dy.likeStart; rw [if_neg h, if_neg h2, if_pos h3]; by_cases h : f.date = s.date <;> simp [h]
theorem like_4' {r : R} {s f : Dy.F} (h : ¬ (r.freq < 4 ∨ 0 < r.yday.length + r.mday.length + r.day.length)) (h2 : ¬ (r.freq = 4 ∨ 0 < r.weekno.length)) (h3 : ¬ (r.freq = 5 ∨ 0 < r.month.length)) : Dy.likeStart r s f = ((f.date == s.date) && (f.month == s.month)) := by
 unfold Dy.likeStart; rw [if_neg h, if_neg h2, if_neg h3]
 by_cases h : f.date = s.date <;> by_cases h' : f.month = s.month <;> simp [h, h']
set_option maxHeartbeats 8000000 in
set_option maxRecDepth 100000 in
theorem untold_any (w : World) (r : R) (sv : Nat → Value) (m n : Int) (hm : Civ.isDay m = true) (hd : Civ.isDay n = true) (hL : Lists w r sv) (hn : Short r) : Calls Tryz.prog 165 #[ruleV r sv, .int .i64 m, .int .i64 n] w fun e w' => e = .returned (.bool (Dy.likeStart r (Dy.about m) (Dy.about n))) ∧ Below w.heap.size w w' := by
 obtain ⟨f, hf⟩ : ∃ f, Dy.about n = f := ⟨_, rfl⟩
 obtain ⟨s, hs⟩ : ∃ s, Dy.about m = s := ⟨_, rfl⟩
 have FW := rWeekday_any n
 have FV := rWeekday_any m
 have FD := rDate_any n
 have FE := rDate_any m
 rw [show Civ.weekday n = f.weekday by rw [← hf, about_at hd]] at FW
 rw [show Civ.weekday m = s.weekday by rw [← hs, about_at hm]] at FV
 rw [show Civ.dateM n = f.month by rw [← hf, about_at hd], show Civ.dateD n = f.date by rw [← hf, about_at hd]] at FD
 rw [show Civ.dateM m = s.month by rw [← hs, about_at hm], show Civ.dateD m = s.date by rw [← hs, about_at hm]] at FE
 generalize Civ.dateY n = y1 at FD
 generalize Civ.dateE n = x1 at FD
 generalize Civ.dateY m = y2 at FE
 generalize Civ.dateE m = x2 at FE
 rw [hf, hs]
 clear hf hs hm hd
 replace FW := Lib.hid FW
 replace FV := Lib.hid FV
 replace FD := Lib.hid FD
 replace FE := Lib.hid FE
 have n7 := hn.2
 have n8 : r.mday.length ≤ 1000 := hn.1 8 (by decide) (by decide) (by decide)
 have n9 : r.yday.length ≤ 1000 := hn.1 9 (by decide) (by decide) (by decide)
 have n10 : r.weekno.length ≤ 1000 := hn.1 10 (by decide) (by decide) (by decide)
 have n11 : r.month.length ≤ 1000 := hn.1 11 (by decide) (by decide) (by decide)
 obtain ⟨a7, k7, e7⟩ := hL.2.slice
 obtain ⟨a8, k8, e8⟩ := (hL.1 8 (by decide) (by decide) (by decide)).slice
 change sv 8 = .slice a8 r.mday.length k8 at e8
 obtain ⟨a9, k9, e9⟩ := (hL.1 9 (by decide) (by decide) (by decide)).slice
 change sv 9 = .slice a9 r.yday.length k9 at e9
 obtain ⟨a10, k10, e10⟩ := (hL.1 10 (by decide) (by decide) (by decide)).slice
 change sv 10 = .slice a10 r.weekno.length k10 at e10
 obtain ⟨a11, k11, e11⟩ := (hL.1 11 (by decide) (by decide) (by decide)).slice
 change sv 11 = .slice a11 r.month.length k11 at e11
 unfold ruleV ruleC
 rw [e7, e8, e9, e10, e11]
 clear e7 e8 e9 e10 e11 hL hn
 by_cases h0 : 0 < r.yday.length
 ·have hr := Lib.hid (like_1' (r := r) (s := s) (f := f) (.inr (by omega)))
  go_enter Tryz.func165, Tryz.ntmps165
  go_wp2
  go_ret
  exact ⟨ret_b hr.out.symm, by (repeat' (first|assumption|exact Below.refl _ _|apply Below.next_alloc|apply Below.drew|(apply Below.next;rotate_left;assumption)))⟩
 by_cases h1 : 0 < r.mday.length
 ·have hr := Lib.hid (like_1' (r := r) (s := s) (f := f) (.inr (by omega)))
  go_enter Tryz.func165, Tryz.ntmps165
  go_wp2
  go_ret
  exact ⟨ret_b hr.out.symm, by (repeat' (first|assumption|exact Below.refl _ _|apply Below.next_alloc|apply Below.drew|(apply Below.next;rotate_left;assumption)))⟩
 by_cases h2 : 0 < r.day.length
 ·have hr := Lib.hid (like_1' (r := r) (s := s) (f := f) (.inr (by omega)))
  go_enter Tryz.func165, Tryz.ntmps165
  go_wp2
  go_ret
  exact ⟨ret_b hr.out.symm, by (repeat' (first|assumption|exact Below.refl _ _|apply Below.next_alloc|apply Below.drew|(apply Below.next;rotate_left;assumption)))⟩
 by_cases h3 : r.freq < 4
 ·have hr := Lib.hid (like_1' (r := r) (s := s) (f := f) (.inl h3))
  go_enter Tryz.func165, Tryz.ntmps165
  go_wp2
  go_ret
  exact ⟨ret_b hr.out.symm, by (repeat' (first|assumption|exact Below.refl _ _|apply Below.next_alloc|apply Below.drew|(apply Below.next;rotate_left;assumption)))⟩
 have hn := Lib.hid (show ¬ (r.freq < 4 ∨ 0 < r.yday.length + r.mday.length + r.day.length) by omega)
 by_cases h4 : r.freq = 4
 ·have q4 : (r.freq == 4) = true := by simp [h4]
  have hr := Lib.hid (like_2' (r := r) (s := s) (f := f) hn.out (.inl h4))
  clear h4
  go_enter Tryz.func165, Tryz.ntmps165
  go_wp2_with (first
   | (go_at_call 182; (with_reducible refine (FW.out _).mono ?_); rintro e w' ⟨rfl, rfl⟩; clear FW)
   | (go_at_call 182; (with_reducible refine (FV.out _).mono ?_); rintro e w' ⟨rfl, rfl⟩))
  go_ret
  exact ⟨ret_b hr.out.symm, by (repeat' (first|assumption|exact Below.refl _ _|apply Below.next_alloc|apply Below.drew|(apply Below.next;rotate_left;assumption)))⟩
 have q4 : (r.freq == 4) = false := by simp [h4]
 by_cases h5 : 0 < r.weekno.length
 ·have hr := Lib.hid (like_2' (r := r) (s := s) (f := f) hn.out (.inr (by omega)))
  clear h4
  go_enter Tryz.func165, Tryz.ntmps165
  go_wp2_with (first
   | (go_at_call 182; (with_reducible refine (FW.out _).mono ?_); rintro e w' ⟨rfl, rfl⟩; clear FW)
   | (go_at_call 182; (with_reducible refine (FV.out _).mono ?_); rintro e w' ⟨rfl, rfl⟩))
  go_ret
  exact ⟨ret_b hr.out.symm, by (repeat' (first|assumption|exact Below.refl _ _|apply Below.next_alloc|apply Below.drew|(apply Below.next;rotate_left;assumption)))⟩
 have hn2 := Lib.hid (show ¬ (r.freq = 4 ∨ 0 < r.weekno.length) by omega)
 clear h4
 by_cases h6 : r.freq = 5
 ·have q6 : (r.freq == 5) = true := by simp [h6]
  have hr := like_3' (r := r) (s := s) (f := f) hn.out hn2.out (.inl h6)
  clear h6
  cases g : (f.date == s.date)
  all_goals
   rw [g] at hr
   replace hr := Lib.hid hr
   go_enter Tryz.func165, Tryz.ntmps165
   go_wp2_with (first
    | (go_at_call 114; (with_reducible refine (FD.out _).mono ?_); rintro e w' ⟨rfl, rfl⟩; clear FD)
    | (go_at_call 114; (with_reducible refine (FE.out _).mono ?_); rintro e w' ⟨rfl, rfl⟩))
   go_ret
   exact ⟨ret_b hr.out.symm, by (repeat' (first|assumption|exact Below.refl _ _|apply Below.next_alloc|apply Below.drew|(apply Below.next;rotate_left;assumption)))⟩
 have q6 : (r.freq == 5) = false := by simp [h6]
 by_cases h7 : 0 < r.month.length
 ·have hr := like_3' (r := r) (s := s) (f := f) hn.out hn2.out (.inr (by omega))
  clear h6
  cases g : (f.date == s.date)
  all_goals
   rw [g] at hr
   replace hr := Lib.hid hr
   go_enter Tryz.func165, Tryz.ntmps165
   go_wp2_with (first
    | (go_at_call 114; (with_reducible refine (FD.out _).mono ?_); rintro e w' ⟨rfl, rfl⟩; clear FD)
    | (go_at_call 114; (with_reducible refine (FE.out _).mono ?_); rintro e w' ⟨rfl, rfl⟩))
   go_ret
   exact ⟨ret_b hr.out.symm, by (repeat' (first|assumption|exact Below.refl _ _|apply Below.next_alloc|apply Below.drew|(apply Below.next;rotate_left;assumption)))⟩
 have hr := like_4' (r := r) (s := s) (f := f) hn.out hn2.out (by omega)
 clear h6
 cases g : (f.date == s.date)
 ·rw [g, Bool.false_and] at hr
  replace hr := Lib.hid hr
  go_enter Tryz.func165, Tryz.ntmps165
  go_wp2_with (first
   | (go_at_call 114; (with_reducible refine (FD.out _).mono ?_); rintro e w' ⟨rfl, rfl⟩; clear FD)
   | (go_at_call 114; (with_reducible refine (FE.out _).mono ?_); rintro e w' ⟨rfl, rfl⟩))
  go_ret
  exact ⟨ret_b hr.out.symm, by (repeat' (first|assumption|exact Below.refl _ _|apply Below.next_alloc|apply Below.drew|(apply Below.next;rotate_left;assumption)))⟩
 ·rw [g, Bool.true_and] at hr
  cases g2 : (f.month == s.month)
  all_goals
   rw [g2] at hr
   replace hr := Lib.hid hr
   go_enter Tryz.func165, Tryz.ntmps165
   go_wp2_with (first
    | (go_at_call 114; (with_reducible refine (FD.out _).mono ?_); rintro e w' ⟨rfl, rfl⟩; clear FD)
    | (go_at_call 114; (with_reducible refine (FE.out _).mono ?_); rintro e w' ⟨rfl, rfl⟩))
   go_ret
   exact ⟨ret_b hr.out.symm, by (repeat' (first|assumption|exact Below.refl _ _|apply Below.next_alloc|apply Below.drew|(apply Below.next;rotate_left;assumption)))⟩
end Go.Proofs.YtkbohijlhhpfbaaGreatDoor.Da
/- The walk through errandref23's lets (printed by gen_rlets.py). -/
namespace Go.Proofs.YtkbohijlhhpfbaaGreatDoor.Da
open Go.RowKit Ru Ut Cw Ra
theorem has_both {l : List Int} {a n : Int} : Dy.has l a (a - n - 1) = (decide (l.length = 0) || both l a n) := rfl
theorem has_same {l : List Int} {a : Int} : Dy.has l a a = (decide (l.length = 0) || decide (a ∈ l)) := by unfold Dy.has; rw [Bool.or_self]
theorem or_pos {n : Nat} {b : Bool} (h : 0 < n) : (decide (n = 0) || b) = b := by rw [decide_eq_false (by omega)]; rfl
theorem or_zero {n : Nat} {b : Bool} (h : ¬ 0 < n) : (decide (n = 0) || b) = true := by rw [decide_eq_true (by omega)]; rfl
theorem lets_eq' (r : R) (s f : Dy.F) {b1 b2 b3 b4 b5 b6 : Bool} (g1 : Dy.has r.month f.month f.month = b1) (g2 : Dy.has r.yday f.place (f.place - f.inYear - 1) = b2) (g3 : Dy.has r.mday f.date (f.date - f.inMonth - 1) = b3) (g4 : Dy.has r.weekno (Wk.numN f.day r.wkst) (Wk.backN f.day r.wkst) = b4) (g5 : Dy.onDay r f = b5) (g6 : Dy.likeStart r s f = b6) :
  Dy.lets r s f = ((b1 && (b2 && b3)) && ((decide (r.weekno.length = 0) || b4) && (b5 && b6))) := by unfold Dy.lets; rw [g1, g2, g3, g4, g5, g6]
end Go.Proofs.YtkbohijlhhpfbaaGreatDoor.Da
/- The walk through errandref23's lets, with numbers of weeks (printed by gen_rlets.py). -/
namespace Go.Proofs.YtkbohijlhhpfbaaGreatDoor.Da
open Go.RowKit Ru Ut Cw Ra
set_option maxHeartbeats 16000000 in
set_option maxRecDepth 100000 in
theorem rlets_w (w : World) (r : R) (sv : Nat → Value) (start n : Int) (hd : Civ.isDay n = true) (h0 : 0 ≤ start) (h1 : start ≤ 315537897599) (hL : Lists w r sv) (hn : Short r) (h10 : 0 < r.weekno.length) : Calls Tryz.prog 119 #[ruleV r sv, .int .i64 start, .int .i64 n] w fun e w' => e = .returned (.bool (Dy.lets r (Dy.about (start / 86400)) (Dy.about n))) ∧ Below w.heap.size w w' := by
 have hds : Civ.isDay (start / 86400) = true := (Civ.isDay_iff _).2 (by omega)
 obtain ⟨f, hf⟩ : ∃ f, Dy.about n = f := ⟨_, rfl⟩
 obtain ⟨s, hs⟩ : ∃ s, Dy.about (start / 86400) = s := ⟨_, rfl⟩
 have hbd := Dy.about_bd n
 have FD := rDate_any n
 have FY := rDays_any (Civ.dateY n)
 have FL := rLen_any (Civ.dateY n) (Civ.dateM n)
 have FP := rPlace_any n
 have FN := rNumber_any n r.wkst
 have FB := rBack_any n r.wkst
 rw [show Civ.len (Civ.dateY n) (Civ.dateM n) = f.inMonth by rw [← hf, about_at hd]] at FL
 rw [show Civ.days (Civ.dateY n) = f.inYear by rw [← hf, about_at hd]] at FY
 rw [show Civ.dateM n = f.month by rw [← hf, about_at hd]] at FL
 rw [show Civ.dateM n = f.month by rw [← hf, about_at hd], show Civ.dateD n = f.date by rw [← hf, about_at hd]] at FD
 rw [show Civ.place n = f.place by rw [← hf, about_at hd]] at FP
 have hday : f.day = n := by rw [← hf, about_at hd]
 generalize Civ.dateY n = y at FD FY FL
 generalize Civ.dateE n = x at FD
 rw [hf] at hbd
 obtain ⟨t7, u7⟩ : ∃ t, r.day.any (Dy.hit f (Dy.ways r f)) = t := ⟨_, rfl⟩
 obtain ⟨t8, u8⟩ : ∃ t, both r.mday f.date f.inMonth = t := ⟨_, rfl⟩
 obtain ⟨t9, u9⟩ : ∃ t, both r.yday f.place f.inYear = t := ⟨_, rfl⟩
 obtain ⟨t10, u10⟩ : ∃ t, decide (Wk.numN n r.wkst ∈ r.weekno) = t := ⟨_, rfl⟩
 obtain ⟨t12, u12⟩ : ∃ t, decide (Wk.backN n r.wkst ∈ r.weekno) = t := ⟨_, rfl⟩
 obtain ⟨t11, u11⟩ : ∃ t, decide (f.month ∈ r.month) = t := ⟨_, rfl⟩
 obtain ⟨b6, g6⟩ : ∃ b, Dy.likeStart r s f = b := ⟨_, rfl⟩
 have hr := Lib.hid (lets_eq' r s f (b1 := decide (r.month.length = 0) || t11) (b2 := decide (r.yday.length = 0) || t9) (b3 := decide (r.mday.length = 0) || t8) (b4 := decide (r.weekno.length = 0) || (t10 || t12)) (b5 := decide (r.day.length = 0) || t7) (b6 := b6) (by rw [has_same, u11]) (by rw [has_both, u9]) (by rw [has_both, u8]) (by rw [hday]; unfold Dy.has; rw [u10, u12]) (by unfold Dy.onDay; rw [u7]) g6)
 have H11 : ∀ W, Below w.heap.size w W → Calls Tryz.prog 44 #[sv 11, .int .i64 f.month] W fun e w' => e = .returned (.bool t11) ∧ W = w' := fun W hB => by
  have := rHas_any f.month ((hL.1 11 (by decide) (by decide) (by decide)).below hB) (Nat.le_trans (hn.1 11 (by decide) (by decide) (by decide)) (by decide)); rwa [show lst r 11 = r.month from rfl, u11] at this
 have H10 : ∀ W, Below w.heap.size w W → Calls Tryz.prog 44 #[sv 10, .int .i64 (Wk.numN n r.wkst)] W fun e w' => e = .returned (.bool t10) ∧ W = w' := fun W hB => by
  have := rHas_any (Wk.numN n r.wkst) ((hL.1 10 (by decide) (by decide) (by decide)).below hB) (Nat.le_trans (hn.1 10 (by decide) (by decide) (by decide)) (by decide)); rwa [show lst r 10 = r.weekno from rfl, u10] at this
 have H12 : ∀ W, Below w.heap.size w W → Calls Tryz.prog 44 #[sv 10, .int .i64 (Wk.backN n r.wkst)] W fun e w' => e = .returned (.bool t12) ∧ W = w' := fun W hB => by
  have := rHas_any (Wk.backN n r.wkst) ((hL.1 10 (by decide) (by decide) (by decide)).below hB) (Nat.le_trans (hn.1 10 (by decide) (by decide) (by decide)) (by decide)); rwa [show lst r 10 = r.weekno from rfl, u12] at this
 have H9 : ∀ W, Below w.heap.size w W → Calls Tryz.prog 162 #[sv 9, .int .i64 f.place, .int .i64 f.inYear] W fun e w' => e = .returned (.bool t9) ∧ W = w' := fun W hB => by
  have := both_any f.place f.inYear ((hL.1 9 (by decide) (by decide) (by decide)).below hB) (hn.1 9 (by decide) (by decide) (by decide)) (by omega) (by omega) (by omega) (by omega); rwa [show lst r 9 = r.yday from rfl, u9] at this
 have H8 : ∀ W, Below w.heap.size w W → Calls Tryz.prog 162 #[sv 8, .int .i64 f.date, .int .i64 f.inMonth] W fun e w' => e = .returned (.bool t8) ∧ W = w' := fun W hB => by
  have := both_any f.date f.inMonth ((hL.1 8 (by decide) (by decide) (by decide)).below hB) (hn.1 8 (by decide) (by decide) (by decide)) (by omega) (by omega) (by omega) (by omega); rwa [show lst r 8 = r.mday from rfl, u8] at this
 have H7 : ∀ W, Below w.heap.size w W → Calls Tryz.prog 164 #[ruleV r sv, .int .i64 n] W fun e w' => e = .returned (.bool t7) ∧ Below W.heap.size W w' := fun W hB => by
  have := weekday_any W r sv n hd (hL.later hB) hn; rwa [hf, u7] at this
 have FU : ∀ W, Below w.heap.size w W → Calls Tryz.prog 165 #[ruleV r sv, .int .i64 (start / 86400), .int .i64 n] W fun e w' => e = .returned (.bool b6) ∧ Below W.heap.size W w' := fun W hB => by
  have := untold_any W r sv (start / 86400) n hds hd (hL.later hB) hn; rwa [hf, hs, g6] at this
 rw [hf, hs]
 generalize Wk.numN n r.wkst = j1 at *
 generalize Wk.backN n r.wkst = j2 at *
 generalize Wk.numY n r.wkst = j3 at *
 clear hf hs hday hds u7 u8 u9 u10 u11 u12 g6 hd
 have n7 := hn.2
 have n8 : r.mday.length ≤ 1000 := hn.1 8 (by decide) (by decide) (by decide)
 have n9 : r.yday.length ≤ 1000 := hn.1 9 (by decide) (by decide) (by decide)
 have n10 : r.weekno.length ≤ 1000 := hn.1 10 (by decide) (by decide) (by decide)
 have n11 : r.month.length ≤ 1000 := hn.1 11 (by decide) (by decide) (by decide)
 obtain ⟨a7, k7, e7⟩ := hL.2.slice
 obtain ⟨a8, k8, e8⟩ := (hL.1 8 (by decide) (by decide) (by decide)).slice
 change sv 8 = .slice a8 r.mday.length k8 at e8
 obtain ⟨a9, k9, e9⟩ := (hL.1 9 (by decide) (by decide) (by decide)).slice
 change sv 9 = .slice a9 r.yday.length k9 at e9
 obtain ⟨a10, k10, e10⟩ := (hL.1 10 (by decide) (by decide) (by decide)).slice
 change sv 10 = .slice a10 r.weekno.length k10 at e10
 obtain ⟨a11, k11, e11⟩ := (hL.1 11 (by decide) (by decide) (by decide)).slice
 change sv 11 = .slice a11 r.month.length k11 at e11
 have RB := RAt.box w r sv 27
 have CF : ∀ W, RAt W w.heap.size r sv → W.cell? ⟨w.heap.size, 0, none⟩ = some (.int .u8 r.freq) ∧ W.cell? ⟨w.heap.size, 1, none⟩ = some (.int .i64 r.interval) ∧ W.cell? ⟨w.heap.size, 2, none⟩ = some (.int .i64 r.count) ∧ W.cell? ⟨w.heap.size, 3, none⟩ = some (.int .u8 r.uk) ∧ W.cell? ⟨w.heap.size, 4, none⟩ = some (.int .i64 r.us) ∧ W.cell? ⟨w.heap.size, 5, none⟩ = some (sv 4) ∧ W.cell? ⟨w.heap.size, 6, none⟩ = some (sv 5) ∧ W.cell? ⟨w.heap.size, 7, none⟩ = some (sv 6) ∧ W.cell? ⟨w.heap.size, 8, none⟩ = some (.slice a7 r.day.length k7) ∧ W.cell? ⟨w.heap.size, 9, none⟩ = some (.slice a8 r.mday.length k8) ∧ W.cell? ⟨w.heap.size, 10, none⟩ = some (.slice a9 r.yday.length k9) ∧ W.cell? ⟨w.heap.size, 11, none⟩ = some (.slice a10 r.weekno.length k10) ∧ W.cell? ⟨w.heap.size, 12, none⟩ = some (.slice a11 r.month.length k11) ∧ W.cell? ⟨w.heap.size, 13, none⟩ = some (sv 12) ∧ W.cell? ⟨w.heap.size, 14, none⟩ = some (.int .i64 r.wkst) := fun W h => ⟨h.2.1, h.2.2.1, h.2.2.2.1, h.2.2.2.2.1, h.2.2.2.2.2.1, (h.2.2.2.2.2.2.2 4 (by decide) (by decide)), (h.2.2.2.2.2.2.2 5 (by decide) (by decide)), (h.2.2.2.2.2.2.2 6 (by decide) (by decide)), (h.2.2.2.2.2.2.2 7 (by decide) (by decide)).trans (by rw [e7]), (h.2.2.2.2.2.2.2 8 (by decide) (by decide)).trans (by rw [e8]), (h.2.2.2.2.2.2.2 9 (by decide) (by decide)).trans (by rw [e9]), (h.2.2.2.2.2.2.2 10 (by decide) (by decide)).trans (by rw [e10]), (h.2.2.2.2.2.2.2 11 (by decide) (by decide)).trans (by rw [e11]), (h.2.2.2.2.2.2.2 12 (by decide) (by decide)), h.2.2.2.2.2.2.1⟩
 unfold ruleV ruleC at *
 rw [e7, e8, e9, e10, e11] at H7 FU RB ⊢
 rw [e11] at H11
 rw [e10] at H10 H12
 rw [e9] at H9
 rw [e8] at H8
 replace H7 := Lib.hid H7
 replace H8 := Lib.hid H8
 replace H9 := Lib.hid H9
 replace H10 := Lib.hid H10
 replace H11 := Lib.hid H11
 replace H12 := Lib.hid H12
 replace FU := Lib.hid FU
 replace FD := Lib.hid FD
 replace FY := Lib.hid FY
 replace FL := Lib.hid FL
 replace FP := Lib.hid FP
 replace FN := Lib.hid FN
 replace FB := Lib.hid FB
 replace RB := Lib.hid RB
 replace CF := Lib.hid CF
 obtain ⟨-, -, m0, m1, d0, d1, -, -, L0, L1, Y0, Y1, p0, p1⟩ := hbd
 clear e7 e8 e9 e10 e11 hL hn
 go_enter Tryz.func119, Tryz.ntmps119
 go_upto_region 2 with (first | (go_at_call 114; (with_reducible refine (FD.out _).mono ?_); rintro e w' ⟨rfl, rfl⟩))
 go_cut [30] (fun c wx => c = .bool (!(decide (r.month.length = 0) || t11)) ∧ Hid (RAt wx w.heap.size r sv) ∧ Hid (Below w.heap.size w wx))
 case first =>
  by_cases hm : 0 < r.month.length
  ·have hb := Lib.hid (or_pos (b := t11) hm)
   go_wp2_with (first | (go_at_call 44; (with_reducible refine (H11.out _ (by (repeat' (first|assumption|exact Below.refl _ _|apply Below.next_alloc|apply Below.drew|(apply Below.next;rotate_left;assumption))))).mono ?_); rintro e w' ⟨rfl, rfl⟩))
   go_meet
   exact ⟨by rw [hb.out], RB, Lib.hid (by (repeat' (first|assumption|exact Below.refl _ _|apply Below.next_alloc|apply Below.drew|(apply Below.next;rotate_left;assumption))))⟩
  ·have hb := Lib.hid (or_zero (b := t11) hm)
   go_wp2_with fail
   go_meet
   exact ⟨by rw [hb.out]; rfl, RB, Lib.hid (by (repeat' (first|assumption|exact Below.refl _ _|apply Below.next_alloc|apply Below.drew|(apply Below.next;rotate_left;assumption))))⟩
 case rest =>
 obtain ⟨rfl, hR, hB⟩ := hcut
 replace RB := hR
 generalize (decide (r.month.length = 0) || t11) = b1 at *
 cases b1
 ·replace hr := Lib.hid (hr.out.trans (show _ = false by simp))
  go_wp2
  go_ret
  exact ⟨ret_b hr.out.symm, hB.out⟩
 have h10n : r.weekno ≠ [] := fun h => by rw [h] at h10; exact absurd h10 (by decide)
 have hw := Lib.hid (or_pos (b := (t10 || t12)) h10)
 obtain ⟨c0, c1, c2, c3, c4, c5, c6, c7, c8, c9, c10, c11, c12, c13, c14⟩ := CF.out _ hR.out
 have hlt := hR.out.1
 go_upto_region 6 with (first | (go_at_call 160; (with_reducible refine (FN.out _).mono ?_); rintro e w' ⟨rfl, rfl⟩))
 go_cut [56] (fun c wx => c = .bool (!(t10 || t12)) ∧ Hid (RAt wx w.heap.size r sv) ∧ Hid (Below w.heap.size w wx))
 case first =>
  cases t10
  ·go_quiet ((first | (go_at_call 161; with_reducible exact Base.qsame (FB.out _)) | (go_at_call 44; with_reducible exact Base.qsame (H10.out _ (Base.below_drewN hB.out _))) | (go_at_call 44; with_reducible exact Base.qsame (H12.out _ (Base.below_drewN hB.out _)))))
   go_wp2
   go_meet
   exact ⟨rfl, Lib.hid (hR.out.later (Base.below_drewN (Below.refl _ _) _)), Lib.hid (Base.below_drewN hB.out _)⟩
  ·go_quiet ((first | (go_at_call 161; with_reducible exact Base.qsame (FB.out _)) | (go_at_call 44; with_reducible exact Base.qsame (H10.out _ (Base.below_drewN hB.out _))) | (go_at_call 44; with_reducible exact Base.qsame (H12.out _ (Base.below_drewN hB.out _)))))
   go_wp2
   go_meet
   exact ⟨rfl, Lib.hid (hR.out.later (Base.below_drewN (Below.refl _ _) _)), Lib.hid (Base.below_drewN hB.out _)⟩
 case rest =>
 have hrw := hr.out
 rw [hw.out] at hrw
 replace hr := Lib.hid hrw
 clear hrw
 clear c0 c1 c2 c3 c4 c5 c6 c7 c8 c9 c10 c11 c12 c13 c14 hlt
 clear hR hB
 obtain ⟨rfl, hR, hB⟩ := hcut
 generalize (t10 || t12) = b at *
 cases b
 ·replace hr := Lib.hid (hr.out.trans (show _ = false by simp [h10n]))
  go_wp2
  go_ret
  exact ⟨ret_b hr.out.symm, hB.out⟩
 obtain ⟨c0, c1, c2, c3, c4, c5, c6, c7, c8, c9, c10, c11, c12, c13, c14⟩ := CF.out _ hR.out
 have hlt := hR.out.1
 go_upto_region 8 with fail
 go_cut [70] (fun c wx => c = .bool (!(decide (r.yday.length = 0) || t9)) ∧ Hid (RAt wx w.heap.size r sv) ∧ Hid (Below w.heap.size w wx))
 case first =>
  by_cases hm : 0 < r.yday.length
  ·have hb := Lib.hid (or_pos (b := t9) hm)
   have hd := decide_eq_true hm
   go_quiet ((first | (go_at_call 163; with_reducible exact Base.qsame (FP.out _)) | (go_at_call 83; with_reducible exact Base.qsame (FY.out _)) | (go_at_call 162; with_reducible exact Base.qsame (H9.out _ (Base.below_drewN hB.out _)))))
   go_wp2
   go_meet
   exact ⟨by rw [hb.out], Lib.hid (hR.out.later (Base.below_drewN (Below.refl _ _) _)), Lib.hid (Base.below_drewN hB.out _)⟩
  ·have hb := Lib.hid (or_zero (b := t9) hm)
   have hd := decide_eq_false hm
   go_quiet (fail)
   go_wp2
   go_meet
   exact ⟨by rw [hb.out]; rfl, Lib.hid (hR.out.later (Base.below_drewN (Below.refl _ _) _)), Lib.hid (Base.below_drewN hB.out _)⟩
 case rest =>
 clear c0 c1 c2 c3 c4 c5 c6 c7 c8 c9 c10 c11 c12 c13 c14 hlt
 clear hR hB
 obtain ⟨rfl, hR, hB⟩ := hcut
 generalize (decide (r.yday.length = 0) || t9) = b at *
 cases b
 ·replace hr := Lib.hid (hr.out.trans (show _ = false by simp [h10n]))
  go_wp2
  go_ret
  exact ⟨ret_b hr.out.symm, hB.out⟩
 obtain ⟨c0, c1, c2, c3, c4, c5, c6, c7, c8, c9, c10, c11, c12, c13, c14⟩ := CF.out _ hR.out
 have hlt := hR.out.1
 go_upto_region 10 with fail
 go_cut [84] (fun c wx => c = .bool (!(decide (r.mday.length = 0) || t8)) ∧ Hid (RAt wx w.heap.size r sv) ∧ Hid (Below w.heap.size w wx))
 case first =>
  by_cases hm : 0 < r.mday.length
  ·have hb := Lib.hid (or_pos (b := t8) hm)
   have hd := decide_eq_true hm
   go_quiet ((first | (go_at_call 82; with_reducible exact Base.qsame (FL.out _)) | (go_at_call 162; with_reducible exact Base.qsame (H8.out _ (Base.below_drewN hB.out _)))))
   go_wp2
   go_meet
   exact ⟨by rw [hb.out], Lib.hid (hR.out.later (Base.below_drewN (Below.refl _ _) _)), Lib.hid (Base.below_drewN hB.out _)⟩
  ·have hb := Lib.hid (or_zero (b := t8) hm)
   have hd := decide_eq_false hm
   go_quiet (fail)
   go_wp2
   go_meet
   exact ⟨by rw [hb.out]; rfl, Lib.hid (hR.out.later (Base.below_drewN (Below.refl _ _) _)), Lib.hid (Base.below_drewN hB.out _)⟩
 case rest =>
 clear c0 c1 c2 c3 c4 c5 c6 c7 c8 c9 c10 c11 c12 c13 c14 hlt
 clear hR hB
 obtain ⟨rfl, hR, hB⟩ := hcut
 generalize (decide (r.mday.length = 0) || t8) = b at *
 cases b
 ·replace hr := Lib.hid (hr.out.trans (show _ = false by simp [h10n]))
  go_wp2
  go_ret
  exact ⟨ret_b hr.out.symm, hB.out⟩
 obtain ⟨c0, c1, c2, c3, c4, c5, c6, c7, c8, c9, c10, c11, c12, c13, c14⟩ := CF.out _ hR.out
 have hlt := hR.out.1
 go_upto_region 12 with fail
 go_cut [94] (fun c wx => c = .bool (!(decide (r.day.length = 0) || t7)) ∧ Hid (RAt wx w.heap.size r sv) ∧ Hid (Below w.heap.size w wx))
 case first =>
  by_cases hm : 0 < r.day.length
  ·have hb := Lib.hid (or_pos (b := t7) hm)
   go_wp2_with (first | (go_at_call 164; (with_reducible refine (H7.out _ hB.out).mono ?_); rintro e w7 ⟨rfl, hB7⟩))
   go_meet
   exact ⟨by rw [hb.out], Lib.hid (hR.out.later hB7), Lib.hid (Below.next hB.out hB7)⟩
  ·have hb := Lib.hid (or_zero (b := t7) hm)
   go_wp2_with fail
   go_meet
   exact ⟨by rw [hb.out]; rfl, hR, hB⟩
 case rest =>
 clear c0 c1 c2 c3 c4 c5 c6 c7 c8 c9 c10 c11 c12 c13 c14 hlt
 clear hR hB
 obtain ⟨rfl, hR, hB⟩ := hcut
 generalize (decide (r.day.length = 0) || t7) = b at *
 cases b
 ·replace hr := Lib.hid (hr.out.trans (show _ = false by simp [h10n]))
  go_wp2
  go_ret
  exact ⟨ret_b hr.out.symm, hB.out⟩
 obtain ⟨c0, c1, c2, c3, c4, c5, c6, c7, c8, c9, c10, c11, c12, c13, c14⟩ := CF.out _ hR.out
 have hlt := hR.out.1
 replace hr := Lib.hid (hr.out.trans (show _ = b6 by simp [h10n]))
 go_wp2_with (first | (go_at_call 165; (with_reducible refine (FU.out _ hB.out).mono ?_); rintro e w8 ⟨rfl, hB8⟩))
 go_ret
 exact ⟨ret_b hr.out.symm, Below.next hB.out hB8⟩
end Go.Proofs.YtkbohijlhhpfbaaGreatDoor.Da
/- The walk through errandref23's lets, without numbers of weeks (printed by gen_rlets.py). -/
namespace Go.Proofs.YtkbohijlhhpfbaaGreatDoor.Da
open Go.RowKit Ru Ut Cw Ra
set_option maxHeartbeats 16000000 in
set_option maxRecDepth 100000 in
theorem rlets_z (w : World) (r : R) (sv : Nat → Value) (start n : Int) (hd : Civ.isDay n = true) (h0 : 0 ≤ start) (h1 : start ≤ 315537897599) (hL : Lists w r sv) (hn : Short r) (h10 : ¬ 0 < r.weekno.length) : Calls Tryz.prog 119 #[ruleV r sv, .int .i64 start, .int .i64 n] w fun e w' => e = .returned (.bool (Dy.lets r (Dy.about (start / 86400)) (Dy.about n))) ∧ Below w.heap.size w w' := by
 have hds : Civ.isDay (start / 86400) = true := (Civ.isDay_iff _).2 (by omega)
 obtain ⟨f, hf⟩ : ∃ f, Dy.about n = f := ⟨_, rfl⟩
 obtain ⟨s, hs⟩ : ∃ s, Dy.about (start / 86400) = s := ⟨_, rfl⟩
 have hbd := Dy.about_bd n
 have FD := rDate_any n
 have FY := rDays_any (Civ.dateY n)
 have FL := rLen_any (Civ.dateY n) (Civ.dateM n)
 have FP := rPlace_any n
 have FN := rNumber_any n r.wkst
 have FB := rBack_any n r.wkst
 rw [show Civ.len (Civ.dateY n) (Civ.dateM n) = f.inMonth by rw [← hf, about_at hd]] at FL
 rw [show Civ.days (Civ.dateY n) = f.inYear by rw [← hf, about_at hd]] at FY
 rw [show Civ.dateM n = f.month by rw [← hf, about_at hd]] at FL
 rw [show Civ.dateM n = f.month by rw [← hf, about_at hd], show Civ.dateD n = f.date by rw [← hf, about_at hd]] at FD
 rw [show Civ.place n = f.place by rw [← hf, about_at hd]] at FP
 have hday : f.day = n := by rw [← hf, about_at hd]
 generalize Civ.dateY n = y at FD FY FL
 generalize Civ.dateE n = x at FD
 rw [hf] at hbd
 obtain ⟨t7, u7⟩ : ∃ t, r.day.any (Dy.hit f (Dy.ways r f)) = t := ⟨_, rfl⟩
 obtain ⟨t8, u8⟩ : ∃ t, both r.mday f.date f.inMonth = t := ⟨_, rfl⟩
 obtain ⟨t9, u9⟩ : ∃ t, both r.yday f.place f.inYear = t := ⟨_, rfl⟩
 obtain ⟨t10, u10⟩ : ∃ t, decide (Wk.numN n r.wkst ∈ r.weekno) = t := ⟨_, rfl⟩
 obtain ⟨t12, u12⟩ : ∃ t, decide (Wk.backN n r.wkst ∈ r.weekno) = t := ⟨_, rfl⟩
 obtain ⟨t11, u11⟩ : ∃ t, decide (f.month ∈ r.month) = t := ⟨_, rfl⟩
 obtain ⟨b6, g6⟩ : ∃ b, Dy.likeStart r s f = b := ⟨_, rfl⟩
 have hr := Lib.hid (lets_eq' r s f (b1 := decide (r.month.length = 0) || t11) (b2 := decide (r.yday.length = 0) || t9) (b3 := decide (r.mday.length = 0) || t8) (b4 := decide (r.weekno.length = 0) || (t10 || t12)) (b5 := decide (r.day.length = 0) || t7) (b6 := b6) (by rw [has_same, u11]) (by rw [has_both, u9]) (by rw [has_both, u8]) (by rw [hday]; unfold Dy.has; rw [u10, u12]) (by unfold Dy.onDay; rw [u7]) g6)
 have H11 : ∀ W, Below w.heap.size w W → Calls Tryz.prog 44 #[sv 11, .int .i64 f.month] W fun e w' => e = .returned (.bool t11) ∧ W = w' := fun W hB => by
  have := rHas_any f.month ((hL.1 11 (by decide) (by decide) (by decide)).below hB) (Nat.le_trans (hn.1 11 (by decide) (by decide) (by decide)) (by decide)); rwa [show lst r 11 = r.month from rfl, u11] at this
 have H10 : ∀ W, Below w.heap.size w W → Calls Tryz.prog 44 #[sv 10, .int .i64 (Wk.numN n r.wkst)] W fun e w' => e = .returned (.bool t10) ∧ W = w' := fun W hB => by
  have := rHas_any (Wk.numN n r.wkst) ((hL.1 10 (by decide) (by decide) (by decide)).below hB) (Nat.le_trans (hn.1 10 (by decide) (by decide) (by decide)) (by decide)); rwa [show lst r 10 = r.weekno from rfl, u10] at this
 have H12 : ∀ W, Below w.heap.size w W → Calls Tryz.prog 44 #[sv 10, .int .i64 (Wk.backN n r.wkst)] W fun e w' => e = .returned (.bool t12) ∧ W = w' := fun W hB => by
  have := rHas_any (Wk.backN n r.wkst) ((hL.1 10 (by decide) (by decide) (by decide)).below hB) (Nat.le_trans (hn.1 10 (by decide) (by decide) (by decide)) (by decide)); rwa [show lst r 10 = r.weekno from rfl, u12] at this
 have H9 : ∀ W, Below w.heap.size w W → Calls Tryz.prog 162 #[sv 9, .int .i64 f.place, .int .i64 f.inYear] W fun e w' => e = .returned (.bool t9) ∧ W = w' := fun W hB => by
  have := both_any f.place f.inYear ((hL.1 9 (by decide) (by decide) (by decide)).below hB) (hn.1 9 (by decide) (by decide) (by decide)) (by omega) (by omega) (by omega) (by omega); rwa [show lst r 9 = r.yday from rfl, u9] at this
 have H8 : ∀ W, Below w.heap.size w W → Calls Tryz.prog 162 #[sv 8, .int .i64 f.date, .int .i64 f.inMonth] W fun e w' => e = .returned (.bool t8) ∧ W = w' := fun W hB => by
  have := both_any f.date f.inMonth ((hL.1 8 (by decide) (by decide) (by decide)).below hB) (hn.1 8 (by decide) (by decide) (by decide)) (by omega) (by omega) (by omega) (by omega); rwa [show lst r 8 = r.mday from rfl, u8] at this
 have H7 : ∀ W, Below w.heap.size w W → Calls Tryz.prog 164 #[ruleV r sv, .int .i64 n] W fun e w' => e = .returned (.bool t7) ∧ Below W.heap.size W w' := fun W hB => by
  have := weekday_any W r sv n hd (hL.later hB) hn; rwa [hf, u7] at this
 have FU : ∀ W, Below w.heap.size w W → Calls Tryz.prog 165 #[ruleV r sv, .int .i64 (start / 86400), .int .i64 n] W fun e w' => e = .returned (.bool b6) ∧ Below W.heap.size W w' := fun W hB => by
  have := untold_any W r sv (start / 86400) n hds hd (hL.later hB) hn; rwa [hf, hs, g6] at this
 rw [hf, hs]
 generalize Wk.numN n r.wkst = j1 at *
 generalize Wk.backN n r.wkst = j2 at *
 generalize Wk.numY n r.wkst = j3 at *
 clear hf hs hday hds u7 u8 u9 u10 u11 u12 g6 hd
 have n7 := hn.2
 have n8 : r.mday.length ≤ 1000 := hn.1 8 (by decide) (by decide) (by decide)
 have n9 : r.yday.length ≤ 1000 := hn.1 9 (by decide) (by decide) (by decide)
 have n10 : r.weekno.length ≤ 1000 := hn.1 10 (by decide) (by decide) (by decide)
 have n11 : r.month.length ≤ 1000 := hn.1 11 (by decide) (by decide) (by decide)
 obtain ⟨a7, k7, e7⟩ := hL.2.slice
 obtain ⟨a8, k8, e8⟩ := (hL.1 8 (by decide) (by decide) (by decide)).slice
 change sv 8 = .slice a8 r.mday.length k8 at e8
 obtain ⟨a9, k9, e9⟩ := (hL.1 9 (by decide) (by decide) (by decide)).slice
 change sv 9 = .slice a9 r.yday.length k9 at e9
 obtain ⟨a10, k10, e10⟩ := (hL.1 10 (by decide) (by decide) (by decide)).slice
 change sv 10 = .slice a10 r.weekno.length k10 at e10
 obtain ⟨a11, k11, e11⟩ := (hL.1 11 (by decide) (by decide) (by decide)).slice
 change sv 11 = .slice a11 r.month.length k11 at e11
 have RB := RAt.box w r sv 27
 have CF : ∀ W, RAt W w.heap.size r sv → W.cell? ⟨w.heap.size, 0, none⟩ = some (.int .u8 r.freq) ∧ W.cell? ⟨w.heap.size, 1, none⟩ = some (.int .i64 r.interval) ∧ W.cell? ⟨w.heap.size, 2, none⟩ = some (.int .i64 r.count) ∧ W.cell? ⟨w.heap.size, 3, none⟩ = some (.int .u8 r.uk) ∧ W.cell? ⟨w.heap.size, 4, none⟩ = some (.int .i64 r.us) ∧ W.cell? ⟨w.heap.size, 5, none⟩ = some (sv 4) ∧ W.cell? ⟨w.heap.size, 6, none⟩ = some (sv 5) ∧ W.cell? ⟨w.heap.size, 7, none⟩ = some (sv 6) ∧ W.cell? ⟨w.heap.size, 8, none⟩ = some (.slice a7 r.day.length k7) ∧ W.cell? ⟨w.heap.size, 9, none⟩ = some (.slice a8 r.mday.length k8) ∧ W.cell? ⟨w.heap.size, 10, none⟩ = some (.slice a9 r.yday.length k9) ∧ W.cell? ⟨w.heap.size, 11, none⟩ = some (.slice a10 r.weekno.length k10) ∧ W.cell? ⟨w.heap.size, 12, none⟩ = some (.slice a11 r.month.length k11) ∧ W.cell? ⟨w.heap.size, 13, none⟩ = some (sv 12) ∧ W.cell? ⟨w.heap.size, 14, none⟩ = some (.int .i64 r.wkst) := fun W h => ⟨h.2.1, h.2.2.1, h.2.2.2.1, h.2.2.2.2.1, h.2.2.2.2.2.1, (h.2.2.2.2.2.2.2 4 (by decide) (by decide)), (h.2.2.2.2.2.2.2 5 (by decide) (by decide)), (h.2.2.2.2.2.2.2 6 (by decide) (by decide)), (h.2.2.2.2.2.2.2 7 (by decide) (by decide)).trans (by rw [e7]), (h.2.2.2.2.2.2.2 8 (by decide) (by decide)).trans (by rw [e8]), (h.2.2.2.2.2.2.2 9 (by decide) (by decide)).trans (by rw [e9]), (h.2.2.2.2.2.2.2 10 (by decide) (by decide)).trans (by rw [e10]), (h.2.2.2.2.2.2.2 11 (by decide) (by decide)).trans (by rw [e11]), (h.2.2.2.2.2.2.2 12 (by decide) (by decide)), h.2.2.2.2.2.2.1⟩
 unfold ruleV ruleC at *
 rw [e7, e8, e9, e10, e11] at H7 FU RB ⊢
 rw [e11] at H11
 rw [e10] at H10 H12
 rw [e9] at H9
 rw [e8] at H8
 replace H7 := Lib.hid H7
 replace H8 := Lib.hid H8
 replace H9 := Lib.hid H9
 replace H10 := Lib.hid H10
 replace H11 := Lib.hid H11
 replace H12 := Lib.hid H12
 replace FU := Lib.hid FU
 replace FD := Lib.hid FD
 replace FY := Lib.hid FY
 replace FL := Lib.hid FL
 replace FP := Lib.hid FP
 replace FN := Lib.hid FN
 replace FB := Lib.hid FB
 replace RB := Lib.hid RB
 replace CF := Lib.hid CF
 obtain ⟨-, -, m0, m1, d0, d1, -, -, L0, L1, Y0, Y1, p0, p1⟩ := hbd
 clear e7 e8 e9 e10 e11 hL hn
 go_enter Tryz.func119, Tryz.ntmps119
 go_upto_region 2 with (first | (go_at_call 114; (with_reducible refine (FD.out _).mono ?_); rintro e w' ⟨rfl, rfl⟩))
 go_cut [30] (fun c wx => c = .bool (!(decide (r.month.length = 0) || t11)) ∧ Hid (RAt wx w.heap.size r sv) ∧ Hid (Below w.heap.size w wx))
 case first =>
  by_cases hm : 0 < r.month.length
  ·have hb := Lib.hid (or_pos (b := t11) hm)
   go_wp2_with (first | (go_at_call 44; (with_reducible refine (H11.out _ (by (repeat' (first|assumption|exact Below.refl _ _|apply Below.next_alloc|apply Below.drew|(apply Below.next;rotate_left;assumption))))).mono ?_); rintro e w' ⟨rfl, rfl⟩))
   go_meet
   exact ⟨by rw [hb.out], RB, Lib.hid (by (repeat' (first|assumption|exact Below.refl _ _|apply Below.next_alloc|apply Below.drew|(apply Below.next;rotate_left;assumption))))⟩
  ·have hb := Lib.hid (or_zero (b := t11) hm)
   go_wp2_with fail
   go_meet
   exact ⟨by rw [hb.out]; rfl, RB, Lib.hid (by (repeat' (first|assumption|exact Below.refl _ _|apply Below.next_alloc|apply Below.drew|(apply Below.next;rotate_left;assumption))))⟩
 case rest =>
 obtain ⟨rfl, hR, hB⟩ := hcut
 replace RB := hR
 generalize (decide (r.month.length = 0) || t11) = b1 at *
 cases b1
 ·replace hr := Lib.hid (hr.out.trans (show _ = false by simp))
  go_wp2
  go_ret
  exact ⟨ret_b hr.out.symm, hB.out⟩
 have hw := Lib.hid (or_zero (b := (t10 || t12)) h10)
 replace hr := Lib.hid (hr.out.trans (by rw [hw.out]))
 obtain ⟨c0, c1, c2, c3, c4, c5, c6, c7, c8, c9, c10, c11, c12, c13, c14⟩ := CF.out _ hR.out
 have hlt := hR.out.1
 go_upto_region 8 with fail
 go_cut [70] (fun c wx => c = .bool (!(decide (r.yday.length = 0) || t9)) ∧ Hid (RAt wx w.heap.size r sv) ∧ Hid (Below w.heap.size w wx))
 case first =>
  by_cases hm : 0 < r.yday.length
  ·have hb := Lib.hid (or_pos (b := t9) hm)
   have hd := decide_eq_true hm
   go_quiet ((first | (go_at_call 163; with_reducible exact Base.qsame (FP.out _)) | (go_at_call 83; with_reducible exact Base.qsame (FY.out _)) | (go_at_call 162; with_reducible exact Base.qsame (H9.out _ (Base.below_drewN hB.out _)))))
   go_wp2
   go_meet
   exact ⟨by rw [hb.out], Lib.hid (hR.out.later (Base.below_drewN (Below.refl _ _) _)), Lib.hid (Base.below_drewN hB.out _)⟩
  ·have hb := Lib.hid (or_zero (b := t9) hm)
   have hd := decide_eq_false hm
   go_quiet (fail)
   go_wp2
   go_meet
   exact ⟨by rw [hb.out]; rfl, Lib.hid (hR.out.later (Base.below_drewN (Below.refl _ _) _)), Lib.hid (Base.below_drewN hB.out _)⟩
 case rest =>
 clear c0 c1 c2 c3 c4 c5 c6 c7 c8 c9 c10 c11 c12 c13 c14 hlt
 clear hR hB
 obtain ⟨rfl, hR, hB⟩ := hcut
 generalize (decide (r.yday.length = 0) || t9) = b at *
 cases b
 ·replace hr := Lib.hid (hr.out.trans (show _ = false by simp))
  go_wp2
  go_ret
  exact ⟨ret_b hr.out.symm, hB.out⟩
 obtain ⟨c0, c1, c2, c3, c4, c5, c6, c7, c8, c9, c10, c11, c12, c13, c14⟩ := CF.out _ hR.out
 have hlt := hR.out.1
 go_upto_region 10 with fail
 go_cut [84] (fun c wx => c = .bool (!(decide (r.mday.length = 0) || t8)) ∧ Hid (RAt wx w.heap.size r sv) ∧ Hid (Below w.heap.size w wx))
 case first =>
  by_cases hm : 0 < r.mday.length
  ·have hb := Lib.hid (or_pos (b := t8) hm)
   have hd := decide_eq_true hm
   go_quiet ((first | (go_at_call 82; with_reducible exact Base.qsame (FL.out _)) | (go_at_call 162; with_reducible exact Base.qsame (H8.out _ (Base.below_drewN hB.out _)))))
   go_wp2
   go_meet
   exact ⟨by rw [hb.out], Lib.hid (hR.out.later (Base.below_drewN (Below.refl _ _) _)), Lib.hid (Base.below_drewN hB.out _)⟩
  ·have hb := Lib.hid (or_zero (b := t8) hm)
   have hd := decide_eq_false hm
   go_quiet (fail)
   go_wp2
   go_meet
   exact ⟨by rw [hb.out]; rfl, Lib.hid (hR.out.later (Base.below_drewN (Below.refl _ _) _)), Lib.hid (Base.below_drewN hB.out _)⟩
 case rest =>
 clear c0 c1 c2 c3 c4 c5 c6 c7 c8 c9 c10 c11 c12 c13 c14 hlt
 clear hR hB
 obtain ⟨rfl, hR, hB⟩ := hcut
 generalize (decide (r.mday.length = 0) || t8) = b at *
 cases b
 ·replace hr := Lib.hid (hr.out.trans (show _ = false by simp))
  go_wp2
  go_ret
  exact ⟨ret_b hr.out.symm, hB.out⟩
 obtain ⟨c0, c1, c2, c3, c4, c5, c6, c7, c8, c9, c10, c11, c12, c13, c14⟩ := CF.out _ hR.out
 have hlt := hR.out.1
 go_upto_region 12 with fail
 go_cut [94] (fun c wx => c = .bool (!(decide (r.day.length = 0) || t7)) ∧ Hid (RAt wx w.heap.size r sv) ∧ Hid (Below w.heap.size w wx))
 case first =>
  by_cases hm : 0 < r.day.length
  ·have hb := Lib.hid (or_pos (b := t7) hm)
   go_wp2_with (first | (go_at_call 164; (with_reducible refine (H7.out _ hB.out).mono ?_); rintro e w7 ⟨rfl, hB7⟩))
   go_meet
   exact ⟨by rw [hb.out], Lib.hid (hR.out.later hB7), Lib.hid (Below.next hB.out hB7)⟩
  ·have hb := Lib.hid (or_zero (b := t7) hm)
   go_wp2_with fail
   go_meet
   exact ⟨by rw [hb.out]; rfl, hR, hB⟩
 case rest =>
 clear c0 c1 c2 c3 c4 c5 c6 c7 c8 c9 c10 c11 c12 c13 c14 hlt
 clear hR hB
 obtain ⟨rfl, hR, hB⟩ := hcut
 generalize (decide (r.day.length = 0) || t7) = b at *
 cases b
 ·replace hr := Lib.hid (hr.out.trans (show _ = false by simp))
  go_wp2
  go_ret
  exact ⟨ret_b hr.out.symm, hB.out⟩
 obtain ⟨c0, c1, c2, c3, c4, c5, c6, c7, c8, c9, c10, c11, c12, c13, c14⟩ := CF.out _ hR.out
 have hlt := hR.out.1
 replace hr := Lib.hid (hr.out.trans (show _ = b6 by simp))
 go_wp2_with (first | (go_at_call 165; (with_reducible refine (FU.out _ hB.out).mono ?_); rintro e w8 ⟨rfl, hB8⟩))
 go_ret
 exact ⟨ret_b hr.out.symm, Below.next hB.out hB8⟩
end Go.Proofs.YtkbohijlhhpfbaaGreatDoor.Da
/- The walks through errandref23's lets (joined), may, Passes and Of. -/
namespace Go.Proofs.YtkbohijlhhpfbaaGreatDoor.Da
open Go.RowKit Ru Ut Cw Ra
theorem rlets_any (w : World) (r : R) (sv : Nat → Value) (start n : Int) (hd : Civ.isDay n = true) (h0 : 0 ≤ start) (h1 : start ≤ 315537897599) (hL : Lists w r sv) (hn : Short r) : Calls Tryz.prog 119 #[ruleV r sv, .int .i64 start, .int .i64 n] w fun e w' => e = .returned (.bool (Dy.lets r (Dy.about (start / 86400)) (Dy.about n))) ∧ Below w.heap.size w w' := by
 by_cases h : 0 < r.weekno.length
 ·exact rlets_w w r sv start n hd h0 h1 hL hn h
 ·exact rlets_z w r sv start n hd h0 h1 hL hn h
def may (r : R) (start : Int) : Bool := decide (chkR r = 0) && (decide (0 ≤ start) && decide (start ≤ 315537897599))
set_option maxHeartbeats 2000000 in
set_option maxRecDepth 100000 in
theorem may_any (w : World) (r : R) (sv : Nat → Value) (start : Int) (hL : Lists w r sv) (hW : Wide r) : Calls Tryz.prog 118 #[ruleV r sv, .int .i64 start] w fun e w' => e = .returned (.bool (may r start)) ∧ Below w.heap.size w w' := by
 have FC : ∀ W, Below w.heap.size w W → Calls Tryz.prog 37 #[ruleV r sv] W fun e w' => e = .returned (.int .i64 (chkR r)) ∧ Below W.heap.size W w' := fun W hB => rcheckR_any W r sv (hL.later hB) hW.1 hW.2.1.2 hW.2.1.1
 unfold ruleV ruleC at *
 clear hL hW
 by_cases hc : chkR r = 0
 ·rw [hc] at FC
  replace FC := Lib.hid FC
  by_cases h0 : 0 ≤ start
  ·by_cases h1 : start ≤ 315537897599
   ·have hr := Lib.hid (show may r start = true by unfold may; rw [decide_eq_true hc, decide_eq_true h0, decide_eq_true h1]; rfl)
    clear hc
    go_enter Tryz.func118, Tryz.ntmps118
    go_wp2_with (first | (go_at_call 37; (with_reducible refine (FC.out _ (by (repeat' (first|assumption|exact Below.refl _ _|apply Below.next_alloc|apply Below.drew|(apply Below.next;rotate_left;assumption))))).mono ?_); rintro e w1 ⟨rfl, hB⟩))
    go_ret
    exact ⟨ret_b hr.out.symm, Below.next_allocs' hB⟩
   ·have hr := Lib.hid (show may r start = false by unfold may; rw [decide_eq_false h1]; simp)
    clear hc
    go_enter Tryz.func118, Tryz.ntmps118
    go_wp2_with (first | (go_at_call 37; (with_reducible refine (FC.out _ (by (repeat' (first|assumption|exact Below.refl _ _|apply Below.next_alloc|apply Below.drew|(apply Below.next;rotate_left;assumption))))).mono ?_); rintro e w1 ⟨rfl, hB⟩))
    go_ret
    exact ⟨ret_b ((decide_eq_false (by omega)).trans hr.out.symm), Below.next_allocs' hB⟩
  ·have hr := Lib.hid (show may r start = false by unfold may; rw [decide_eq_false h0]; simp)
   clear hc
   go_enter Tryz.func118, Tryz.ntmps118
   go_wp2_with (first | (go_at_call 37; (with_reducible refine (FC.out _ (by (repeat' (first|assumption|exact Below.refl _ _|apply Below.next_alloc|apply Below.drew|(apply Below.next;rotate_left;assumption))))).mono ?_); rintro e w1 ⟨rfl, hB⟩))
   go_ret
   exact ⟨ret_b hr.out.symm, Below.next_allocs' hB⟩
 ·have hr := Lib.hid (show may r start = false by unfold may; rw [decide_eq_false hc]; rfl)
  have hq : (chkR r == 0) = false := by simp [hc]
  replace FC := Lib.hid FC
  clear hc
  go_enter Tryz.func118, Tryz.ntmps118
  go_wp2_with (first | (go_at_call 37; (with_reducible refine (FC.out _ (by (repeat' (first|assumption|exact Below.refl _ _|apply Below.next_alloc|apply Below.drew|(apply Below.next;rotate_left;assumption))))).mono ?_); rintro e w1 ⟨rfl, hB⟩))
  go_ret
  exact ⟨ret_b hr.out.symm, Below.next_allocs' hB⟩
theorem may_in {r : R} {start : Int} (h : may r start = true) : chkR r = 0 ∧ 0 ≤ start ∧ start ≤ 315537897599 := by
 unfold may at h; simpa using h
theorem rbox (w : World) (r : R) (sv : Nat → Value) (t : TypeId) {W : World} (hB : Below (w.alloc (.cells (ruleC r sv) t)).heap.size (w.alloc (.cells (ruleC r sv) t)) W) : w.heap.size < W.heap.size ∧ W.cell? ⟨w.heap.size, 0, none⟩ = some (.int .u8 r.freq) ∧ W.cell? ⟨w.heap.size, 1, none⟩ = some (.int .i64 r.interval) ∧ W.cell? ⟨w.heap.size, 2, none⟩ = some (.int .i64 r.count) ∧ W.cell? ⟨w.heap.size, 3, none⟩ = some (.int .u8 r.uk) ∧ W.cell? ⟨w.heap.size, 4, none⟩ = some (.int .i64 r.us) ∧ W.cell? ⟨w.heap.size, 5, none⟩ = some (sv 4) ∧ W.cell? ⟨w.heap.size, 6, none⟩ = some (sv 5) ∧ W.cell? ⟨w.heap.size, 7, none⟩ = some (sv 6) ∧ W.cell? ⟨w.heap.size, 8, none⟩ = some (sv 7) ∧ W.cell? ⟨w.heap.size, 9, none⟩ = some (sv 8) ∧ W.cell? ⟨w.heap.size, 10, none⟩ = some (sv 9) ∧ W.cell? ⟨w.heap.size, 11, none⟩ = some (sv 10) ∧ W.cell? ⟨w.heap.size, 12, none⟩ = some (sv 11) ∧ W.cell? ⟨w.heap.size, 13, none⟩ = some (sv 12) ∧ W.cell? ⟨w.heap.size, 14, none⟩ = some (.int .i64 r.wkst) := by
 obtain ⟨h0, h1, h2, h3, h4, h5, h6, h7⟩ := (RAt.box w r sv t).later hB
 exact ⟨h0, h1, h2, h3, h4, h5, h7 4 (by decide) (by decide), h7 5 (by decide) (by decide), h7 6 (by decide) (by decide), h7 7 (by decide) (by decide), h7 8 (by decide) (by decide), h7 9 (by decide) (by decide), h7 10 (by decide) (by decide), h7 11 (by decide) (by decide), h7 12 (by decide) (by decide), h6⟩
end Go.Proofs.YtkbohijlhhpfbaaGreatDoor.Da
/- The walks through errandref23's Of and errandref20's SameInts. -/
namespace Go.Proofs.YtkbohijlhhpfbaaGreatDoor.Da
open Go.RowKit Ru Ut Cw Ra
theorem rof_nil {r : R} {start a b : Int} (h : a < 0 ∨ b < a ∨ 3652059 < b ∨ 366 < b - a ∨ start < 0 ∨ chkR r ≠ 0 ∨ Civ.isDay (start / 86400) = false) : Dy.daysOf r start a b = [] := by unfold Dy.daysOf; rw [if_pos h]
theorem rof_may {r : R} {start a b : Int} (h : may r start = false) : Dy.daysOf r start a b = [] := by
 by_cases h0 : start < 0
 ·exact rof_nil (by omega)
 ·by_cases h1 : chkR r = 0
  ·refine rof_nil (.inr (.inr (.inr (.inr (.inr (.inr ?_))))))
   unfold may at h
   rw [decide_eq_true h1, decide_eq_true (show 0 ≤ start by omega), Bool.true_and, Bool.true_and] at h
   have := of_decide_eq_false h
   rw [← Bool.not_eq_true, Civ.isDay_iff]; omega
  ·exact rof_nil (by omega)
theorem rof_days {r : R} {start a b : Int} (hm : may r start = true) (h1 : 0 ≤ a) (h2 : a ≤ b) (h3 : b ≤ 3652059) (h4 : b - a ≤ 366) : Dy.daysOf r start a b = Dy.days r start a (b - a).toNat := by
 obtain ⟨m0, m1, m2⟩ := may_in hm
 unfold Dy.daysOf; rw [if_neg]
 have : Civ.isDay (start / 86400) = true := (Civ.isDay_iff _).2 (by omega)
 rw [this]
 simp only [ne_eq, Bool.true_eq_false, or_false]
 omega
theorem rgives_nil {w W : World} {l : List Int} (hl : Hid (l = [])) (hB : Below w.heap.size w W) : Gives w l (.returned (.slice none 0 0)) W := by rw [hl.out]; exact ⟨_, rfl, OwnI.nil _ _, hB⟩
theorem rgives_of {w W : World} {B : Nat} {v : Value} {l m : List Int} (h : OwnI W B v m) (hl : m = l) (hb : w.heap.size ≤ B) (hB : Below w.heap.size w W) : Gives w l (.returned v) W := by subst hl; exact ⟨_, rfl, h.base hb, hB⟩
set_option maxHeartbeats 8000000 in
set_option maxRecDepth 100000 in
theorem rOf_any (w : World) (r : R) (sv : Nat → Value) (start a b : Int) (hL : Lists w r sv) (hW : Wide r) : Calls Tryz.prog 84 #[ruleV r sv, .int .i64 start, .int .i64 a, .int .i64 b] w (Gives w (Dy.daysOf r start a b)) := by
 have FM : ∀ W, Below w.heap.size w W → Calls Tryz.prog 118 #[ruleV r sv, .int .i64 start] W fun e w' => e = .returned (.bool (may r start)) ∧ Below W.heap.size W w' := fun W hB => may_any W r sv start (hL.later hB) hW
 have BX := fun W => @rbox w r sv 27 W
 have FL : may r start = true → ∀ n W, Civ.isDay n = true → Below w.heap.size w W → Calls Tryz.prog 119 #[ruleV r sv, .int .i64 start, .int .i64 n] W fun e w' => e = .returned (.bool (Dy.lets r (Dy.about (start / 86400)) (Dy.about n))) ∧ Below W.heap.size W w' := fun hm n W hi hB =>
  rlets_any W r sv start n hi (may_in hm).2.1 (may_in hm).2.2 (hL.later hB) hW.1
 unfold ruleV ruleC at *
 replace BX := Lib.hid BX
 replace FL := Lib.hid FL
 clear hL hW
 by_cases h1 : a < 0
 ·have hr := Lib.hid (rof_nil (r := r) (start := start) (a := a) (b := b) (.inl h1))
  replace FM := Lib.hid FM
  go_enter Tryz.func84, Tryz.ntmps84
  go_wp2
  go_ret
  exact rgives_nil hr (by (repeat' (first|assumption|exact Below.refl _ _|apply Below.next_alloc|apply Below.drew|(apply Below.next;rotate_left;assumption))))
 by_cases h2 : b < a
 ·have hr := Lib.hid (rof_nil (r := r) (start := start) (a := a) (b := b) (.inr (.inl h2)))
  replace FM := Lib.hid FM
  go_enter Tryz.func84, Tryz.ntmps84
  go_wp2
  go_ret
  exact rgives_nil hr (by (repeat' (first|assumption|exact Below.refl _ _|apply Below.next_alloc|apply Below.drew|(apply Below.next;rotate_left;assumption))))
 by_cases h3 : 3652059 < b
 ·have hr := Lib.hid (rof_nil (r := r) (start := start) (a := a) (b := b) (.inr (.inr (.inl h3))))
  replace FM := Lib.hid FM
  go_enter Tryz.func84, Tryz.ntmps84
  go_wp2
  go_ret
  exact rgives_nil hr (by (repeat' (first|assumption|exact Below.refl _ _|apply Below.next_alloc|apply Below.drew|(apply Below.next;rotate_left;assumption))))
 by_cases h4 : 366 < b - a
 ·have hr := Lib.hid (rof_nil (r := r) (start := start) (a := a) (b := b) (.inr (.inr (.inr (.inl h4)))))
  replace FM := Lib.hid FM
  go_enter Tryz.func84, Tryz.ntmps84
  go_wp2
  go_ret
  exact rgives_nil hr (by (repeat' (first|assumption|exact Below.refl _ _|apply Below.next_alloc|apply Below.drew|(apply Below.next;rotate_left;assumption))))
 cases hm : may r start
 ·have hr := Lib.hid (rof_may (a := a) (b := b) hm)
  rw [hm] at FM
  replace FM := Lib.hid FM
  clear hm
  go_enter Tryz.func84, Tryz.ntmps84
  go_wp2_with (first | (go_at_call 118; (with_reducible refine (FM.out _ (by (repeat' (first|assumption|exact Below.refl _ _|apply Below.next_alloc|apply Below.drew|(apply Below.next;rotate_left;assumption))))).mono ?_); rintro e w1 ⟨rfl, hB⟩))
  go_ret
  exact rgives_nil hr (Below.next_allocs' hB)
 ·have hr := Lib.hid (rof_days (r := r) (start := start) (a := a) (b := b) hm (by omega) (by omega) (by omega) (by omega))
  replace FL := Lib.hid (FL.out hm)
  rw [hm] at FM
  replace FM := Lib.hid FM
  clear hm
  go_enter Tryz.func84, Tryz.ntmps84
  go_wp2_with (first | (go_at_call 118; (with_reducible refine (FM.out _ (by (repeat' (first|assumption|exact Below.refl _ _|apply Below.next_alloc|apply Below.drew|(apply Below.next;rotate_left;assumption))))).mono ?_); rintro e w1 ⟨rfl, hB⟩))
  have bx := Lib.hid hB
  have b1 := Lib.hid (Below.next_allocs' hB)
  clear hB
  go_loopw [9, 10] (fun v i wr => ∃ k : Nat, k ≤ (b - a).toNat ∧ i = .int .i64 (a + k) ∧ OwnI wr w1.heap.size v (Dy.days r start a k) ∧ Hid (Below w1.heap.size w1 wr)) (fun _ i _ => (b - intOf i).toNat)
  case atStart => exact ⟨0, by omega, by simp, OwnI.nil _ _, Lib.hid (Below.refl _ _)⟩
  case round =>
   obtain ⟨k, hk, rfl, hown, hB⟩ := hrel
   replace hown := Lib.hid hown
   have hlen := Dy.days_le r start k a
   by_cases hkb : a + k < b
   ·obtain ⟨y0, x0, x1, x2, x3, x4, x5, x6, x7, x8, x9, x10, x11, x12, x13, x14⟩ := BX.out wr (Below.next bx.out hB.out)
    have b1r := Lib.hid (Below.next b1.out hB.out)
    have DS := Dy.days_snoc r start k a
    have FM2 := FL.out (a + k) wr ((Civ.isDay_iff _).2 (by omega)) b1r.out
    generalize Dy.lets r (Dy.about (start / 86400)) (Dy.about (a + k)) = t at DS FM2
    replace FM2 := Lib.hid FM2
    cases t
    ·rw [if_neg (by decide), List.append_nil] at DS
     replace DS := Lib.hid DS
     go_wp2_with (first | (go_at_call 119; (with_reducible refine FM2.out.mono ?_); rintro e w4 ⟨rfl, hB4⟩))
     go_roundw
     case rel => exact ⟨k + 1, by omega, by go_num, by rw [DS.out]; exact hown.out.below hB4, Lib.hid (Below.next hB.out hB4)⟩
     case measure => simp [intOf]; omega
    ·rw [if_pos rfl] at DS
     replace DS := Lib.hid DS
     go_wp2_with (first
      | (go_at_call 119; (with_reducible refine FM2.out.mono ?_); rintro e w4 ⟨rfl, hB4⟩; have hB4 := Lib.hid hB4)
      | (at_builtin; refine push_int rfl _ _ rfl w1.heap.size _ (Dy.days r start a k) rfl (hown.out.below hB4.out) rfl (by omega) (Below.next hB.out hB4.out).size ?_; intro v5 w5 hown5 hB5))
     go_roundw
     case rel => exact ⟨k + 1, by omega, by go_num, by rw [DS.out]; exact hown5, Lib.hid ((Below.next hB.out hB4.out).trans hB5)⟩
     case measure => simp [intOf]; omega
   ·have hr2 := Lib.hid (show Dy.days r start a k = Dy.daysOf r start a b by rw [hr.out, show k = (b - a).toNat by omega])
    go_wp2
    go_ret
    exact rgives_of hown.out hr2.out b1.out.size (Below.next b1.out hB.out)
theorem same_take {l m : List Int} (h : l.length = m.length) {k : Nat} (hk : l.length ≤ k) (ht : l.take k = m.take k) : l = m := by
 rwa [List.take_of_length_le hk, List.take_of_length_le (by omega)] at ht
theorem rSame_any {w : World} {v u : Value} {l m : List Int} (hl : Ints w v l) (hm : Ints w u m) (hn : l.length ≤ 1000000) (hn2 : m.length ≤ 1000000) : Calls Tryz.prog 14 #[v, u] w fun e w' => e = .returned (.bool (decide (l = m))) ∧ Below w.heap.size w w' := by
 by_cases hlen : l.length = m.length
 ·rcases hl with ⟨rfl, a1, c1, rfl, -⟩ | ⟨h0, b, o, cap, rfl, hlt, hcap, hcell⟩
  ·obtain rfl : m = [] := List.length_eq_zero_iff.1 hlen.symm
   obtain ⟨a2, c2, rfl⟩ := hm.slice
   clear hm hlen
   go_enter Tryz.func14, Tryz.ntmps14
   go_wp2
   refine wp_loop_rounds 1 ?_
   rw [rounds_succ]
   go_wp2
   go_ret
   exact ⟨rfl, by (repeat' (first|assumption|exact Below.refl _ _|apply Below.next_alloc|apply Below.drew|(apply Below.next;rotate_left;assumption)))⟩
  ·rcases hm with ⟨rfl, -⟩ | ⟨-, b2, o2, cap2, rfl, hlt2, hcap2, hcell2⟩
   ·exact absurd hlen (by rw [List.length_nil]; omega)
   have HC := Lib.hid hcell
   have HD := Lib.hid hcell2
   rw [← hlen]
   have HL := Lib.hid hlen
   clear hcell hcell2
   go_enter Tryz.func14, Tryz.ntmps14
   go_wp2
   go_loopw [5] (fun i wr => ∃ k : Nat, k ≤ l.length ∧ i = .int .i64 k ∧ Hid (l.take k = m.take k) ∧ Hid (Below w.heap.size w wr)) (fun i _ => l.length - (intOf i).toNat)
   case atStart => exact ⟨0, by omega, rfl, Lib.hid (by simp), Lib.hid (Below.refl _ _)⟩
   case round =>
    obtain ⟨k, k1, rfl, hx, hB⟩ := hrel
    by_cases hk : k < l.length
    ·have q1 := (hB.out.cell (p := ⟨b, o + k, none⟩) hlt).trans (HC.out k hk)
     have q2 := (hB.out.cell (p := ⟨b2, o2 + k, none⟩) hlt2).trans (HD.out k (by omega))
     have i2 : (k : Int) < (l.length : Int) := by omega
     have i3 : (0 : Int) ≤ (k : Int) := by omega
     have hs := Lib.hid (List.take_succ_eq_append_getElem hk)
     have hs2 := Lib.hid (List.take_succ_eq_append_getElem (show k < m.length by omega))
     obtain ⟨x, hx1⟩ : ∃ x, l[k] = x := ⟨_, rfl⟩
     obtain ⟨y, hy1⟩ : ∃ y, m[k]'(by omega) = y := ⟨_, rfl⟩
     rw [hx1] at q1 hs
     rw [hy1] at q2 hs2
     clear hlen hx1 hy1
     by_cases he : x = y
     ·have t1 : (x != y) = false := by simp [he]
      have hx2 := Lib.hid (show l.take (k + 1) = m.take (k + 1) by rw [hs.out, hs2.out, hx.out, he])
      clear he
      go_wp2
      go_quiet (fail)
      go_wp2
      go_roundw
      case rel => exact ⟨k + 1, by omega, by go_num, hx2, Lib.hid (Base.below_drewN hB.out _)⟩
      case measure => simp [intOf]; omega
     ·have t1 : (x != y) = true := by simp [he]
      have hr := Lib.hid (decide_eq_false (show ¬ l = m from fun h => by
       have h1 := hs.out
       rw [h, hs2.out] at h1
       have := List.append_inj_right' h1 rfl
       exact he (List.cons.inj this).1.symm))
      clear he
      go_wp2
      go_quiet (fail)
      go_wp2
      go_ret
      exact ⟨ret_b hr.out.symm, Base.below_drewN hB.out _⟩
    ·have hr := Lib.hid (decide_eq_true (same_take HL.out (by omega) hx.out))
     go_wp2
     go_ret
     exact ⟨ret_b hr.out.symm, hB.out⟩
 ·have hr := Lib.hid (decide_eq_false (show ¬ l = m from fun h => hlen (by rw [h])))
  obtain ⟨a1, c1, rfl⟩ := hl.slice
  obtain ⟨a2, c2, rfl⟩ := hm.slice
  have t0 : ((l.length : Int) != (m.length : Int)) = true := by simp; omega
  clear hl hm hlen
  go_enter Tryz.func14, Tryz.ntmps14
  go_wp2
  go_ret
  exact ⟨ret_b hr.out.symm, by (repeat' (first|assumption|exact Below.refl _ _|apply Below.next_alloc|apply Below.drew|(apply Below.next;rotate_left;assumption)))⟩
end Go.Proofs.YtkbohijlhhpfbaaGreatDoor.Da
