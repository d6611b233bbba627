/- The walk through dayset's likeStart. -/
import Derived.Test.YtpfimkjfonijcaaDoorDf
namespace Go.Proofs.YtpfimkjfonijcaaDoor.Da
open Go.RowKit Ru Ut Cw Ra
theorem like_1 {r : R} {s f : Dy.F} (h : r.freq < 4 ∨ 0 < r.yday.length + r.mday.length + r.day.length) : Dy.likeStart r s f = true := by unfold Dy.likeStart; rw [if_pos h]
theorem like_2 {r : R} {s f : Dy.F} (h : ¬ (r.freq < 4 ∨ 0 < r.yday.length + r.mday.length + r.day.length)) (h2 : r.freq = 4 ∨ 0 < r.weekno.length) : Dy.likeStart r s f = decide (f.weekday = s.weekday) := by unfold Dy.likeStart; rw [if_neg h, if_pos h2]
theorem like_3 {r : R} {s f : Dy.F} (h : ¬ (r.freq < 4 ∨ 0 < r.yday.length + r.mday.length + r.day.length)) (h2 : ¬ (r.freq = 4 ∨ 0 < r.weekno.length)) (h3 : r.freq = 5 ∨ 0 < r.month.length) : Dy.likeStart r s f = decide (f.date = s.date) := by unfold Dy.likeStart; rw [if_neg h, if_neg h2, if_pos h3]
theorem like_4 {r : R} {s f : Dy.F} (h : ¬ (r.freq < 4 ∨ 0 < r.yday.length + r.mday.length + r.day.length)) (h2 : ¬ (r.freq = 4 ∨ 0 < r.weekno.length)) (h3 : ¬ (r.freq = 5 ∨ 0 < r.month.length)) : Dy.likeStart r s f = (decide (f.date = s.date) && decide (f.month = s.month)) := by unfold Dy.likeStart; rw [if_neg h, if_neg h2, if_neg h3]
theorem dec_beq (a b : Int) : decide (a = b) = (a == b) := by by_cases h : a = b <;> simp [h]
set_option maxHeartbeats 4000000 in
set_option maxRecDepth 100000 in
theorem likeStart_any (w : World) (r : R) (sv : Nat → Value) (s f : Dy.F) (hL : Lists w r sv) (hn : Short r) : Calls Tryd.prog 51 #[ruleV r sv, factsV s, factsV f] w fun e w' => e = .returned (.bool (Dy.likeStart r s f)) ∧ Below w.heap.size w w' := by
  have n7 := hn.2
  have n8 : r.mday.length ≤ 1000 := hn.1 8 (by decide) (by decide) (by decide)
  have n9 : r.yday.length ≤ 1000 := hn.1 9 (by decide) (by decide) (by decide)
  have n10 : r.weekno.length ≤ 1000 := hn.1 10 (by decide) (by decide) (by decide)
  have n11 : r.month.length ≤ 1000 := hn.1 11 (by decide) (by decide) (by decide)
  obtain ⟨a7, k7, e7⟩ := hL.2.slice
  obtain ⟨a8, k8, e8⟩ := (hL.1 8 (by decide) (by decide) (by decide)).slice
  change sv 8 = .slice a8 r.mday.length k8 at e8
  obtain ⟨a9, k9, e9⟩ := (hL.1 9 (by decide) (by decide) (by decide)).slice
  change sv 9 = .slice a9 r.yday.length k9 at e9
  obtain ⟨a10, k10, e10⟩ := (hL.1 10 (by decide) (by decide) (by decide)).slice
  change sv 10 = .slice a10 r.weekno.length k10 at e10
  obtain ⟨a11, k11, e11⟩ := (hL.1 11 (by decide) (by decide) (by decide)).slice
  change sv 11 = .slice a11 r.month.length k11 at e11
  unfold ruleV ruleC factsV factsC
  rw [e7, e8, e9, e10, e11]
  clear e7 e8 e9 e10 e11 hL hn
  by_cases h1 : r.freq < 4
  · have hr := Lib.hid (like_1 (r := r) (s := s) (f := f) (.inl h1))
    go_enter Tryd.func51, Tryd.ntmps51
    go_wp2
    go_ret
    exact ⟨ret_b hr.out.symm, by (repeat' (first | assumption | exact Below.refl _ _ | apply Below.next_alloc | apply Below.drew | (apply Below.next; rotate_left; assumption)))⟩
  · by_cases h2 : 0 < (r.yday.length : Int) + r.mday.length + r.day.length
    · have hr := Lib.hid (like_1 (r := r) (s := s) (f := f) (.inr (by omega)))
      go_enter Tryd.func51, Tryd.ntmps51
      go_wp2
      go_ret
      exact ⟨ret_b hr.out.symm, by (repeat' (first | assumption | exact Below.refl _ _ | apply Below.next_alloc | apply Below.drew | (apply Below.next; rotate_left; assumption)))⟩
    · have hn := Lib.hid (show ¬ (r.freq < 4 ∨ 0 < r.yday.length + r.mday.length + r.day.length) by omega)
      by_cases h3 : r.freq = 4
      · have q3 : (r.freq == 4) = true := by simp [h3]
        have hr := Lib.hid (like_2 (r := r) (s := s) (f := f) hn.out (.inl h3))
        rw [dec_beq] at hr
        clear h3
        cases g : (f.weekday == s.weekday)
        all_goals
          rw [g] at hr
          go_enter Tryd.func51, Tryd.ntmps51
          go_wp2
          go_ret
          exact ⟨ret_b hr.out.symm, by (repeat' (first | assumption | exact Below.refl _ _ | apply Below.next_alloc | apply Below.drew | (apply Below.next; rotate_left; assumption)))⟩
      · have q3 : (r.freq == 4) = false := by simp [h3]
        by_cases h4 : 0 < (r.weekno.length : Int)
        · have hr := Lib.hid (like_2 (r := r) (s := s) (f := f) hn.out (.inr (by omega)))
          rw [dec_beq] at hr
          clear h3
          cases g : (f.weekday == s.weekday)
          all_goals
            rw [g] at hr
            go_enter Tryd.func51, Tryd.ntmps51
            go_wp2
            go_ret
            exact ⟨ret_b hr.out.symm, by (repeat' (first | assumption | exact Below.refl _ _ | apply Below.next_alloc | apply Below.drew | (apply Below.next; rotate_left; assumption)))⟩
        · have hn2 := Lib.hid (show ¬ (r.freq = 4 ∨ 0 < r.weekno.length) by omega)
          by_cases h5 : r.freq = 5
          · have q5 : (r.freq == 5) = true := by simp [h5]
            have hr := Lib.hid (like_3 (r := r) (s := s) (f := f) hn.out hn2.out (.inl h5))
            rw [dec_beq] at hr
            clear h3 h5
            cases g : (f.date == s.date)
            all_goals
              rw [g] at hr
              go_enter Tryd.func51, Tryd.ntmps51
              go_wp2
              go_ret
              exact ⟨ret_b hr.out.symm, by (repeat' (first | assumption | exact Below.refl _ _ | apply Below.next_alloc | apply Below.drew | (apply Below.next; rotate_left; assumption)))⟩
          · have q5 : (r.freq == 5) = false := by simp [h5]
            by_cases h6 : 0 < (r.month.length : Int)
            · have hr := Lib.hid (like_3 (r := r) (s := s) (f := f) hn.out hn2.out (.inr (by omega)))
              rw [dec_beq] at hr
              clear h3 h5
              cases g : (f.date == s.date)
              all_goals
                rw [g] at hr
                go_enter Tryd.func51, Tryd.ntmps51
                go_wp2
                go_ret
                exact ⟨ret_b hr.out.symm, by (repeat' (first | assumption | exact Below.refl _ _ | apply Below.next_alloc | apply Below.drew | (apply Below.next; rotate_left; assumption)))⟩
            · have hr := Lib.hid (like_4 (r := r) (s := s) (f := f) hn.out hn2.out (by omega))
              rw [dec_beq, dec_beq] at hr
              clear h3 h5
              cases g : (f.date == s.date)
              · rw [g, Bool.false_and] at hr
                go_enter Tryd.func51, Tryd.ntmps51
                go_wp2
                go_ret
                exact ⟨ret_b hr.out.symm, by (repeat' (first | assumption | exact Below.refl _ _ | apply Below.next_alloc | apply Below.drew | (apply Below.next; rotate_left; assumption)))⟩
              · rw [g, Bool.true_and] at hr
                cases g2 : (f.month == s.month)
                all_goals
                  rw [g2] at hr
                  go_enter Tryd.func51, Tryd.ntmps51
                  go_wp2
                  go_ret
                  exact ⟨ret_b hr.out.symm, by (repeat' (first | assumption | exact Below.refl _ _ | apply Below.next_alloc | apply Below.drew | (apply Below.next; rotate_left; assumption)))⟩
end Go.Proofs.YtpfimkjfonijcaaDoor.Da
