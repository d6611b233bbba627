import Derived.Test.YtkbohijlhhpfbaaGreatDoorDf
import Derived.Test.YtkbohijlhhpfbaaGreatDoorWw
/- The walk through dayset's likeStart. -/
namespace Go.Proofs.YtkbohijlhhpfbaaGreatDoor.Da
open Go.RowKit Ru Ut Cw Ra
theorem like_1 {r : R} {s f : Dy.F} (h : r.freq < 4 ∨ 0 < r.yday.length + r.mday.length + r.day.length) : Dy.likeStart r s f = true := by unfold Dy.likeStart; rw [if_pos h]
theorem like_2 {r : R} {s f : Dy.F} (h : ¬ (r.freq < 4 ∨ 0 < r.yday.length + r.mday.length + r.day.length)) (h2 : r.freq = 4 ∨ 0 < r.weekno.length) : Dy.likeStart r s f = decide (f.weekday = s.weekday) := by unfold Dy.likeStart; rw [if_neg h, if_pos h2]
theorem like_3 {r : R} {s f : Dy.F} (h : ¬ (r.freq < 4 ∨ 0 < r.yday.length + r.mday.length + r.day.length)) (h2 : ¬ (r.freq = 4 ∨ 0 < r.weekno.length)) (h3 : r.freq = 5 ∨ 0 < r.month.length) : Dy.likeStart r s f = decide (f.date = s.date) := by unfold Dy.likeStart; rw [if_neg h, if_neg h2, if_pos h3]
theorem like_4 {r : R} {s f : Dy.F} (h : ¬ (r.freq < 4 ∨ 0 < r.yday.length + r.mday.length + r.day.length)) (h2 : ¬ (r.freq = 4 ∨ 0 < r.weekno.length)) (h3 : ¬ (r.freq = 5 ∨ 0 < r.month.length)) : Dy.likeStart r s f = (decide (f.date = s.date) && decide (f.month = s.month)) := by unfold Dy.likeStart; rw [if_neg h, if_neg h2, if_neg h3]
theorem dec_beq (a b : Int) : decide (a = b) = (a == b) := by by_cases h : a = b <;> simp [h]
set_option maxHeartbeats 4000000 in
set_option maxRecDepth 100000 in
theorem likeStart_any (w : World) (r : R) (sv : Nat → Value) (s f : Dy.F) (hL : Lists w r sv) (hn : Short r) : Calls Tryz.prog 154 #[ruleV r sv, factsV s, factsV f] w fun e w' => e = .returned (.bool (Dy.likeStart r s f)) ∧ Below w.heap.size w w' := by
  have n7 := hn.2
  have n8 : r.mday.length ≤ 1000 := hn.1 8 (by decide) (by decide) (by decide)
  have n9 : r.yday.length ≤ 1000 := hn.1 9 (by decide) (by decide) (by decide)
  have n10 : r.weekno.length ≤ 1000 := hn.1 10 (by decide) (by decide) (by decide)
  have n11 : r.month.length ≤ 1000 := hn.1 11 (by decide) (by decide) (by decide)
  obtain ⟨a7, k7, e7⟩ := hL.2.slice
  obtain ⟨a8, k8, e8⟩ := (hL.1 8 (by decide) (by decide) (by decide)).slice
  change sv 8 = .slice a8 r.mday.length k8 at e8
  obtain ⟨a9, k9, e9⟩ := (hL.1 9 (by decide) (by decide) (by decide)).slice
  change sv 9 = .slice a9 r.yday.length k9 at e9
  obtain ⟨a10, k10, e10⟩ := (hL.1 10 (by decide) (by decide) (by decide)).slice
  change sv 10 = .slice a10 r.weekno.length k10 at e10
  obtain ⟨a11, k11, e11⟩ := (hL.1 11 (by decide) (by decide) (by decide)).slice
  change sv 11 = .slice a11 r.month.length k11 at e11
  unfold ruleV ruleC factsV factsC
  rw [e7, e8, e9, e10, e11]
  clear e7 e8 e9 e10 e11 hL hn
  by_cases h1 : r.freq < 4
  · have hr := Lib.hid (like_1 (r := r) (s := s) (f := f) (.inl h1))
    go_enter Tryz.func154, Tryz.ntmps154
    go_wp2
    go_ret
    exact ⟨ret_b hr.out.symm, by (repeat' (first | assumption | exact Below.refl _ _ | apply Below.next_alloc | apply Below.drew | (apply Below.next; rotate_left; assumption)))⟩
  · by_cases h2 : 0 < (r.yday.length : Int) + r.mday.length + r.day.length
    · have hr := Lib.hid (like_1 (r := r) (s := s) (f := f) (.inr (by omega)))
      go_enter Tryz.func154, Tryz.ntmps154
      go_wp2
      go_ret
      exact ⟨ret_b hr.out.symm, by (repeat' (first | assumption | exact Below.refl _ _ | apply Below.next_alloc | apply Below.drew | (apply Below.next; rotate_left; assumption)))⟩
    · have hn := Lib.hid (show ¬ (r.freq < 4 ∨ 0 < r.yday.length + r.mday.length + r.day.length) by omega)
      by_cases h3 : r.freq = 4
      · have q3 : (r.freq == 4) = true := by simp [h3]
        have hr := Lib.hid (like_2 (r := r) (s := s) (f := f) hn.out (.inl h3))
        rw [dec_beq] at hr
        clear h3
        cases g : (f.weekday == s.weekday)
        all_goals
          rw [g] at hr
          go_enter Tryz.func154, Tryz.ntmps154
          go_wp2
          go_ret
          exact ⟨ret_b hr.out.symm, by (repeat' (first | assumption | exact Below.refl _ _ | apply Below.next_alloc | apply Below.drew | (apply Below.next; rotate_left; assumption)))⟩
      · have q3 : (r.freq == 4) = false := by simp [h3]
        by_cases h4 : 0 < (r.weekno.length : Int)
        · have hr := Lib.hid (like_2 (r := r) (s := s) (f := f) hn.out (.inr (by omega)))
          rw [dec_beq] at hr
          clear h3
          cases g : (f.weekday == s.weekday)
          all_goals
            rw [g] at hr
            go_enter Tryz.func154, Tryz.ntmps154
            go_wp2
            go_ret
            exact ⟨ret_b hr.out.symm, by (repeat' (first | assumption | exact Below.refl _ _ | apply Below.next_alloc | apply Below.drew | (apply Below.next; rotate_left; assumption)))⟩
        · have hn2 := Lib.hid (show ¬ (r.freq = 4 ∨ 0 < r.weekno.length) by omega)
          by_cases h5 : r.freq = 5
          · have q5 : (r.freq == 5) = true := by simp [h5]
            have hr := Lib.hid (like_3 (r := r) (s := s) (f := f) hn.out hn2.out (.inl h5))
            rw [dec_beq] at hr
            clear h3 h5
            cases g : (f.date == s.date)
            all_goals
              rw [g] at hr
              go_enter Tryz.func154, Tryz.ntmps154
              go_wp2
              go_ret
              exact ⟨ret_b hr.out.symm, by (repeat' (first | assumption | exact Below.refl _ _ | apply Below.next_alloc | apply Below.drew | (apply Below.next; rotate_left; assumption)))⟩
          · have q5 : (r.freq == 5) = false := by simp [h5]
            by_cases h6 : 0 < (r.month.length : Int)
            · have hr := Lib.hid (like_3 (r := r) (s := s) (f := f) hn.out hn2.out (.inr (by omega)))
              rw [dec_beq] at hr
              clear h3 h5
              cases g : (f.date == s.date)
              all_goals
                rw [g] at hr
                go_enter Tryz.func154, Tryz.ntmps154
                go_wp2
                go_ret
                exact ⟨ret_b hr.out.symm, by (repeat' (first | assumption | exact Below.refl _ _ | apply Below.next_alloc | apply Below.drew | (apply Below.next; rotate_left; assumption)))⟩
            · have hr := Lib.hid (like_4 (r := r) (s := s) (f := f) hn.out hn2.out (by omega))
              rw [dec_beq, dec_beq] at hr
              clear h3 h5
              cases g : (f.date == s.date)
              · rw [g, Bool.false_and] at hr
                go_enter Tryz.func154, Tryz.ntmps154
                go_wp2
                go_ret
                exact ⟨ret_b hr.out.symm, by (repeat' (first | assumption | exact Below.refl _ _ | apply Below.next_alloc | apply Below.drew | (apply Below.next; rotate_left; assumption)))⟩
              · rw [g, Bool.true_and] at hr
                cases g2 : (f.month == s.month)
                all_goals
                  rw [g2] at hr
                  go_enter Tryz.func154, Tryz.ntmps154
                  go_wp2
                  go_ret
                  exact ⟨ret_b hr.out.symm, by (repeat' (first | assumption | exact Below.refl _ _ | apply Below.next_alloc | apply Below.drew | (apply Below.next; rotate_left; assumption)))⟩
end Go.Proofs.YtkbohijlhhpfbaaGreatDoor.Da

/- The walk through dayset's lets (printed by gen_lets.py). -/
namespace Go.Proofs.YtkbohijlhhpfbaaGreatDoor.Da
open Go.RowKit Ru Ut Cw Ra
/-- the rule's cells at the head of block b -/
def BoxR (W : World) (b : Nat) (r : R) (sv : Nat → Value) : Prop := W.cell? ⟨b, 0, none⟩ = some (.int .u8 r.freq) ∧ W.cell? ⟨b, 1, none⟩ = some (.int .i64 r.interval) ∧ W.cell? ⟨b, 2, none⟩ = some (.int .i64 r.count) ∧ W.cell? ⟨b, 3, none⟩ = some (.int .u8 r.uk) ∧ W.cell? ⟨b, 4, none⟩ = some (.int .i64 r.us) ∧ W.cell? ⟨b, 5, none⟩ = some (sv 4) ∧ W.cell? ⟨b, 6, none⟩ = some (sv 5) ∧ W.cell? ⟨b, 7, none⟩ = some (sv 6) ∧ W.cell? ⟨b, 8, none⟩ = some (sv 7) ∧ W.cell? ⟨b, 9, none⟩ = some (sv 8) ∧ W.cell? ⟨b, 10, none⟩ = some (sv 9) ∧ W.cell? ⟨b, 11, none⟩ = some (sv 10) ∧ W.cell? ⟨b, 12, none⟩ = some (sv 11) ∧ W.cell? ⟨b, 13, none⟩ = some (sv 12) ∧ W.cell? ⟨b, 14, none⟩ = some (.int .i64 r.wkst)
/-- the cells of a day's facts at the head of block b -/
def BoxF (W : World) (b : Nat) (f : Dy.F) : Prop := W.cell? ⟨b, 0, none⟩ = some (.int .i64 f.day) ∧ W.cell? ⟨b, 1, none⟩ = some (.int .i64 f.month) ∧ W.cell? ⟨b, 2, none⟩ = some (.int .i64 f.date) ∧ W.cell? ⟨b, 3, none⟩ = some (.int .i64 f.weekday) ∧ W.cell? ⟨b, 4, none⟩ = some (.int .i64 f.inMonth) ∧ W.cell? ⟨b, 5, none⟩ = some (.int .i64 f.inYear) ∧ W.cell? ⟨b, 6, none⟩ = some (.int .i64 f.place) ∧ W.cell? ⟨b, 7, none⟩ = some (.int .i64 f.n0) ∧ W.cell? ⟨b, 8, none⟩ = some (.int .i64 f.n1) ∧ W.cell? ⟨b, 9, none⟩ = some (.int .i64 f.n2) ∧ W.cell? ⟨b, 10, none⟩ = some (.int .i64 f.n3)
theorem BoxR.keep {W W2 : World} {b : Nat} {r : R} {sv : Nat → Value} (h : BoxR W b r sv) (hb : b < W.heap.size) (hB : Below W.heap.size W W2) : BoxR W2 b r sv := by
  have k : ∀ i v, W.cell? ⟨b, i, none⟩ = some v → W2.cell? ⟨b, i, none⟩ = some v := fun i v hv => (hB.cell (p := ⟨b, i, none⟩) hb).trans hv
  obtain ⟨h0, h1, h2, h3, h4, h5, h6, h7, h8, h9, h10, h11, h12, h13, h14⟩ := h
  exact ⟨k _ _ h0, k _ _ h1, k _ _ h2, k _ _ h3, k _ _ h4, k _ _ h5, k _ _ h6, k _ _ h7, k _ _ h8, k _ _ h9, k _ _ h10, k _ _ h11, k _ _ h12, k _ _ h13, k _ _ h14⟩
theorem BoxF.keep {W W2 : World} {b : Nat} {f : Dy.F} (h : BoxF W b f) (hb : b < W.heap.size) (hB : Below W.heap.size W W2) : BoxF W2 b f := by
  have k : ∀ i v, W.cell? ⟨b, i, none⟩ = some v → W2.cell? ⟨b, i, none⟩ = some v := fun i v hv => (hB.cell (p := ⟨b, i, none⟩) hb).trans hv
  obtain ⟨h0, h1, h2, h3, h4, h5, h6, h7, h8, h9, h10⟩ := h
  exact ⟨k _ _ h0, k _ _ h1, k _ _ h2, k _ _ h3, k _ _ h4, k _ _ h5, k _ _ h6, k _ _ h7, k _ _ h8, k _ _ h9, k _ _ h10⟩
theorem BoxR.new (w : World) (r : R) (sv : Nat → Value) (t : TypeId) : BoxR (w.alloc (.cells (ruleC r sv) t)) w.heap.size r sv :=
  ⟨(World.cell?_alloc_new w (ruleC r sv) t 0).trans rfl, (World.cell?_alloc_new w (ruleC r sv) t 1).trans rfl, (World.cell?_alloc_new w (ruleC r sv) t 2).trans rfl, (World.cell?_alloc_new w (ruleC r sv) t 3).trans rfl, (World.cell?_alloc_new w (ruleC r sv) t 4).trans rfl, (World.cell?_alloc_new w (ruleC r sv) t 5).trans rfl, (World.cell?_alloc_new w (ruleC r sv) t 6).trans rfl, (World.cell?_alloc_new w (ruleC r sv) t 7).trans rfl, (World.cell?_alloc_new w (ruleC r sv) t 8).trans rfl, (World.cell?_alloc_new w (ruleC r sv) t 9).trans rfl, (World.cell?_alloc_new w (ruleC r sv) t 10).trans rfl, (World.cell?_alloc_new w (ruleC r sv) t 11).trans rfl, (World.cell?_alloc_new w (ruleC r sv) t 12).trans rfl, (World.cell?_alloc_new w (ruleC r sv) t 13).trans rfl, (World.cell?_alloc_new w (ruleC r sv) t 14).trans rfl⟩
theorem BoxF.new (w : World) (f : Dy.F) (t : TypeId) : BoxF (w.alloc (.cells (factsC f) t)) w.heap.size f :=
  ⟨(World.cell?_alloc_new w (factsC f) t 0).trans rfl, (World.cell?_alloc_new w (factsC f) t 1).trans rfl, (World.cell?_alloc_new w (factsC f) t 2).trans rfl, (World.cell?_alloc_new w (factsC f) t 3).trans rfl, (World.cell?_alloc_new w (factsC f) t 4).trans rfl, (World.cell?_alloc_new w (factsC f) t 5).trans rfl, (World.cell?_alloc_new w (factsC f) t 6).trans rfl, (World.cell?_alloc_new w (factsC f) t 7).trans rfl, (World.cell?_alloc_new w (factsC f) t 8).trans rfl, (World.cell?_alloc_new w (factsC f) t 9).trans rfl, (World.cell?_alloc_new w (factsC f) t 10).trans rfl⟩
end Go.Proofs.YtkbohijlhhpfbaaGreatDoor.Da

