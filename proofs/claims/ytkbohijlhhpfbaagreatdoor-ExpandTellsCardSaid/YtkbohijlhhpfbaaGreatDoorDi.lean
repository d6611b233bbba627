/- The walk through dayset's lets (printed by gen_lets.py). -/
import Derived.Test.YtkbohijlhhpfbaaGreatDoorDh
namespace Go.Proofs.YtkbohijlhhpfbaaGreatDoor.Da
open Go.RowKit Ru Ut Cw Ra
theorem boxes3 (w : World) (r : R) (sv : Nat → Value) (s f : Dy.F) (T1 T2 T3 : TypeId) (W2 : World) (hB : Below (((w.alloc (.cells (ruleC r sv) T1)).alloc (.cells (factsC s) T2)).alloc (.cells (factsC f) T3)).heap.size (((w.alloc (.cells (ruleC r sv) T1)).alloc (.cells (factsC s) T2)).alloc (.cells (factsC f) T3)) W2) :
    BoxR W2 w.heap.size r sv ∧ BoxF W2 (w.heap.size + 1) s ∧ BoxF W2 (w.heap.size + 2) f := by
  have h1 := BoxR.new w r sv T1
  have h2 := BoxF.new (w.alloc (.cells (ruleC r sv) T1)) s T2
  have h3 := BoxF.new ((w.alloc (.cells (ruleC r sv) T1)).alloc (.cells (factsC s) T2)) f T3
  have z1 : (w.alloc (.cells (ruleC r sv) T1)).heap.size = w.heap.size + 1 := World.size_alloc _ _
  have z2 : ((w.alloc (.cells (ruleC r sv) T1)).alloc (.cells (factsC s) T2)).heap.size = w.heap.size + 2 := by rw [World.size_alloc, z1]
  have z3 : (((w.alloc (.cells (ruleC r sv) T1)).alloc (.cells (factsC s) T2)).alloc (.cells (factsC f) T3)).heap.size = w.heap.size + 3 := by rw [World.size_alloc, z2]
  rw [z1] at h2
  rw [z2] at h3
  refine ⟨?_, ?_, h3.keep (by omega) hB⟩
  · exact (h1.keep (by omega) (Below.next_alloc (Below.next_alloc (Below.refl _ _) _) _)).keep (by omega) hB
  · exact (h2.keep (by omega) (Below.next_alloc (Below.refl _ _) _)).keep (by omega) hB
theorem lets_eq (r : R) (s f : Dy.F) {b1 b2 b3 b4 b5 b6 : Bool} (g1 : Dy.has r.month f.month f.month = b1) (g2 : Dy.has r.yday f.place (f.place - f.inYear - 1) = b2) (g3 : Dy.has r.mday f.date (f.date - f.inMonth - 1) = b3) (g4 : Dy.has r.weekno (Wk.numN f.day r.wkst) (Wk.backN f.day r.wkst) = b4) (g5 : Dy.onDay r f = b5) (g6 : Dy.likeStart r s f = b6) :
    Dy.lets r s f = ((b1 && (b2 && b3)) && ((decide (r.weekno.length = 0) || b4) && (b5 && b6))) := by unfold Dy.lets; rw [g1, g2, g3, g4, g5, g6]
def Fok (f : Dy.F) : Prop := 0 ≤ f.day ∧ f.day ≤ 3652058 ∧ 0 ≤ f.month ∧ f.month ≤ 12 ∧ 0 ≤ f.date ∧ f.date ≤ 31 ∧ 0 ≤ f.weekday ∧ f.weekday ≤ 6 ∧ 0 ≤ f.inMonth ∧ f.inMonth ≤ 31 ∧ 0 ≤ f.inYear ∧ f.inYear ≤ 366 ∧ 0 ≤ f.place ∧ f.place ≤ 366
set_option maxHeartbeats 8000000 in
set_option maxRecDepth 100000 in
theorem lets_any (w : World) (r : R) (sv : Nat → Value) (s f : Dy.F) (hT : Tab w) (hL : Lists w r sv) (hn : Short r) (hf : Fok f) : Calls Tryz.prog 111 #[ruleV r sv, factsV s, factsV f] w fun e w' => e = .returned (.bool (Dy.lets r s f)) ∧ Below w.heap.size w w' := by
  have n10 : r.weekno.length ≤ 1000 := hn.1 10 (by decide) (by decide) (by decide)
  obtain ⟨b1, g1⟩ : ∃ b, Dy.has r.month f.month f.month = b := ⟨_, rfl⟩
  obtain ⟨b2, g2⟩ : ∃ b, Dy.has r.yday f.place (f.place - f.inYear - 1) = b := ⟨_, rfl⟩
  obtain ⟨b3, g3⟩ : ∃ b, Dy.has r.mday f.date (f.date - f.inMonth - 1) = b := ⟨_, rfl⟩
  obtain ⟨b4, g4⟩ : ∃ b, Dy.has r.weekno (Wk.numN f.day r.wkst) (Wk.backN f.day r.wkst) = b := ⟨_, rfl⟩
  obtain ⟨b5, g5⟩ : ∃ b, Dy.onDay r f = b := ⟨_, rfl⟩
  obtain ⟨b6, g6⟩ : ∃ b, Dy.likeStart r s f = b := ⟨_, rfl⟩
  have hr := lets_eq r s f g1 g2 g3 g4 g5 g6
  have F11 : ∀ W, Below w.heap.size w W → Calls Tryz.prog 150 #[sv 11, .int .i64 f.month, .int .i64 f.month] W fun e w' => e = .returned (.bool b1) ∧ W = w' := fun W hB => by
    have := has_any f.month f.month ((hL.1 11 (by decide) (by decide) (by decide)).below hB) (hn.1 11 (by decide) (by decide) (by decide)); rwa [show lst r 11 = r.month from rfl, g1] at this
  have F9 : ∀ W, Below w.heap.size w W → Calls Tryz.prog 150 #[sv 9, .int .i64 f.place, .int .i64 (f.place - f.inYear - 1)] W fun e w' => e = .returned (.bool b2) ∧ W = w' := fun W hB => by
    have := has_any f.place (f.place - f.inYear - 1) ((hL.1 9 (by decide) (by decide) (by decide)).below hB) (hn.1 9 (by decide) (by decide) (by decide)); rwa [show lst r 9 = r.yday from rfl, g2] at this
  have F8 : ∀ W, Below w.heap.size w W → Calls Tryz.prog 150 #[sv 8, .int .i64 f.date, .int .i64 (f.date - f.inMonth - 1)] W fun e w' => e = .returned (.bool b3) ∧ W = w' := fun W hB => by
    have := has_any f.date (f.date - f.inMonth - 1) ((hL.1 8 (by decide) (by decide) (by decide)).below hB) (hn.1 8 (by decide) (by decide) (by decide)); rwa [show lst r 8 = r.mday from rfl, g3] at this
  have F10 : ∀ W, Below w.heap.size w W → Calls Tryz.prog 150 #[sv 10, .int .i64 (Wk.numN f.day r.wkst), .int .i64 (Wk.backN f.day r.wkst)] W fun e w' => e = .returned (.bool b4) ∧ W = w' := fun W hB => by
    have := has_any (Wk.numN f.day r.wkst) (Wk.backN f.day r.wkst) ((hL.1 10 (by decide) (by decide) (by decide)).below hB) (hn.1 10 (by decide) (by decide) (by decide)); rwa [show lst r 10 = r.weekno from rfl, g4] at this
  have FO : ∀ W, Below w.heap.size w W → Calls Tryz.prog 153 #[ruleV r sv, factsV f] W fun e w' => e = .returned (.bool b5) ∧ Below W.heap.size W w' := fun W hB => by
    have := onDay_any W r sv f (hL.later hB) hn; rwa [g5] at this
  have FL : ∀ W, Below w.heap.size w W → Calls Tryz.prog 154 #[ruleV r sv, factsV s, factsV f] W fun e w' => e = .returned (.bool b6) ∧ Below W.heap.size W w' := fun W hB => by
    have := likeStart_any W r sv s f (hL.later hB) hn; rwa [g6] at this
  have FN := fun W hT => number_any f.day r.wkst W hT
  have FB := fun W hT => backN_any f.day r.wkst W hT
  have HX := boxes3 w r sv s f 33 149 149
  clear g1 g2 g3 g4 g5 g6
  obtain ⟨a10, k10, e10⟩ := (hL.1 10 (by decide) (by decide) (by decide)).slice
  change sv 10 = .slice a10 r.weekno.length k10 at e10
  unfold ruleV ruleC factsV factsC at *
  rw [e10] at FO FL F10 HX ⊢
  have E10 := Lib.hid e10
  have HT := Lib.hid hT
  replace HX := Lib.hid HX
  replace F11 := Lib.hid F11
  replace F10 := Lib.hid F10
  replace F9 := Lib.hid F9
  replace F8 := Lib.hid F8
  replace FO := Lib.hid FO
  replace FL := Lib.hid FL
  replace FN := Lib.hid FN
  replace FB := Lib.hid FB
  obtain ⟨d0, d1, m0, m1, t0, t1, -, -, i0, i1, y0, y1, p0, p1⟩ := hf
  clear e10 hT hL hn
  cases b1
  · rw [show (((false && (b2 && b3)) && ((decide (r.weekno.length = 0) || b4) && (b5 && b6))) = false) from rfl] at hr
    replace hr := Lib.hid hr
    go_enter Tryz.func111, Tryz.ntmps111
    go_wp2_with (first
      | (go_at_call 150; (with_reducible refine (F11.out _ (by (repeat' (first | assumption | exact Below.refl _ _ | apply Below.next_alloc | apply Below.drew | (apply Below.next; rotate_left; assumption))))).mono ?_); rintro e w' ⟨rfl, rfl⟩)
      | (go_at_call 150; (with_reducible refine (F9.out _ (by (repeat' (first | assumption | exact Below.refl _ _ | apply Below.next_alloc | apply Below.drew | (apply Below.next; rotate_left; assumption))))).mono ?_); rintro e w' ⟨rfl, rfl⟩)
      | (go_at_call 150; (with_reducible refine (F8.out _ (by (repeat' (first | assumption | exact Below.refl _ _ | apply Below.next_alloc | apply Below.drew | (apply Below.next; rotate_left; assumption))))).mono ?_); rintro e w' ⟨rfl, rfl⟩))
    go_ret
    exact ⟨ret_b hr.out.symm, by (repeat' (first | assumption | exact Below.refl _ _ | apply Below.next_alloc | apply Below.drew | (apply Below.next; rotate_left; assumption)))⟩
  cases b2
  · rw [show (((true && (false && b3)) && ((decide (r.weekno.length = 0) || b4) && (b5 && b6))) = false) from rfl] at hr
    replace hr := Lib.hid hr
    go_enter Tryz.func111, Tryz.ntmps111
    go_wp2_with (first
      | (go_at_call 150; (with_reducible refine (F11.out _ (by (repeat' (first | assumption | exact Below.refl _ _ | apply Below.next_alloc | apply Below.drew | (apply Below.next; rotate_left; assumption))))).mono ?_); rintro e w' ⟨rfl, rfl⟩)
      | (go_at_call 150; (with_reducible refine (F9.out _ (by (repeat' (first | assumption | exact Below.refl _ _ | apply Below.next_alloc | apply Below.drew | (apply Below.next; rotate_left; assumption))))).mono ?_); rintro e w' ⟨rfl, rfl⟩)
      | (go_at_call 150; (with_reducible refine (F8.out _ (by (repeat' (first | assumption | exact Below.refl _ _ | apply Below.next_alloc | apply Below.drew | (apply Below.next; rotate_left; assumption))))).mono ?_); rintro e w' ⟨rfl, rfl⟩))
    go_ret
    exact ⟨ret_b hr.out.symm, by (repeat' (first | assumption | exact Below.refl _ _ | apply Below.next_alloc | apply Below.drew | (apply Below.next; rotate_left; assumption)))⟩
  cases b3
  · rw [show (((true && (true && false)) && ((decide (r.weekno.length = 0) || b4) && (b5 && b6))) = false) from rfl] at hr
    replace hr := Lib.hid hr
    go_enter Tryz.func111, Tryz.ntmps111
    go_wp2_with (first
      | (go_at_call 150; (with_reducible refine (F11.out _ (by (repeat' (first | assumption | exact Below.refl _ _ | apply Below.next_alloc | apply Below.drew | (apply Below.next; rotate_left; assumption))))).mono ?_); rintro e w' ⟨rfl, rfl⟩)
      | (go_at_call 150; (with_reducible refine (F9.out _ (by (repeat' (first | assumption | exact Below.refl _ _ | apply Below.next_alloc | apply Below.drew | (apply Below.next; rotate_left; assumption))))).mono ?_); rintro e w' ⟨rfl, rfl⟩)
      | (go_at_call 150; (with_reducible refine (F8.out _ (by (repeat' (first | assumption | exact Below.refl _ _ | apply Below.next_alloc | apply Below.drew | (apply Below.next; rotate_left; assumption))))).mono ?_); rintro e w' ⟨rfl, rfl⟩))
    go_ret
    exact ⟨ret_b hr.out.symm, by (repeat' (first | assumption | exact Below.refl _ _ | apply Below.next_alloc | apply Below.drew | (apply Below.next; rotate_left; assumption)))⟩
  rw [show (((true && (true && true)) && ((decide (r.weekno.length = 0) || b4) && (b5 && b6))) = ((decide (r.weekno.length = 0) || b4) && (b5 && b6))) from rfl] at hr
  by_cases h0 : 0 < (r.weekno.length : Int)
  · rw [decide_eq_false (show ¬ r.weekno.length = 0 by omega), Bool.false_or] at hr
    cases b4
    · rw [Bool.false_and] at hr
      replace hr := Lib.hid hr
      go_enter Tryz.func111, Tryz.ntmps111
      go_wp2_with (first
        | (go_at_call 150; (with_reducible refine (F11.out _ (by (repeat' (first | assumption | exact Below.refl _ _ | apply Below.next_alloc | apply Below.drew | (apply Below.next; rotate_left; assumption))))).mono ?_); rintro e w' ⟨rfl, rfl⟩)
        | (go_at_call 150; (with_reducible refine (F9.out _ (by (repeat' (first | assumption | exact Below.refl _ _ | apply Below.next_alloc | apply Below.drew | (apply Below.next; rotate_left; assumption))))).mono ?_); rintro e w' ⟨rfl, rfl⟩)
        | (go_at_call 150; (with_reducible refine (F8.out _ (by (repeat' (first | assumption | exact Below.refl _ _ | apply Below.next_alloc | apply Below.drew | (apply Below.next; rotate_left; assumption))))).mono ?_); rintro e w' ⟨rfl, rfl⟩)
        | (go_at_call 151; (with_reducible refine (FN.out _ (HT.out.later (by (repeat' (first | assumption | exact Below.refl _ _ | apply Below.next_alloc | apply Below.drew | (apply Below.next; rotate_left; assumption)))))).mono ?_); rintro e w' ⟨rfl, rfl⟩))
      go_quiet (first | (go_at_call 152; with_reducible exact Base.qsame (FB.out _ (Tab.drewN (HT.out.later (by (repeat' (first | assumption | exact Below.refl _ _ | apply Below.next_alloc | apply Below.drew | (apply Below.next; rotate_left; assumption))))) _))) | (go_at_call 150; with_reducible exact Base.qsame (F10.out _ (Base.below_drewN (by (repeat' (first | assumption | exact Below.refl _ _ | apply Below.next_alloc | apply Below.drew | (apply Below.next; rotate_left; assumption)))) _))))
      go_wp2_with (first
        | fail)
      go_ret
      exact ⟨ret_b hr.out.symm, Base.below_drewN (by (repeat' (first | assumption | exact Below.refl _ _ | apply Below.next_alloc | apply Below.drew | (apply Below.next; rotate_left; assumption)))) _⟩
    rw [Bool.true_and] at hr
    cases b5
    · rw [Bool.false_and] at hr
      replace hr := Lib.hid hr
      go_enter Tryz.func111, Tryz.ntmps111
      go_wp2_with (first
        | (go_at_call 150; (with_reducible refine (F11.out _ (by (repeat' (first | assumption | exact Below.refl _ _ | apply Below.next_alloc | apply Below.drew | (apply Below.next; rotate_left; assumption))))).mono ?_); rintro e w' ⟨rfl, rfl⟩)
        | (go_at_call 150; (with_reducible refine (F9.out _ (by (repeat' (first | assumption | exact Below.refl _ _ | apply Below.next_alloc | apply Below.drew | (apply Below.next; rotate_left; assumption))))).mono ?_); rintro e w' ⟨rfl, rfl⟩)
        | (go_at_call 150; (with_reducible refine (F8.out _ (by (repeat' (first | assumption | exact Below.refl _ _ | apply Below.next_alloc | apply Below.drew | (apply Below.next; rotate_left; assumption))))).mono ?_); rintro e w' ⟨rfl, rfl⟩)
        | (go_at_call 151; (with_reducible refine (FN.out _ (HT.out.later (by (repeat' (first | assumption | exact Below.refl _ _ | apply Below.next_alloc | apply Below.drew | (apply Below.next; rotate_left; assumption)))))).mono ?_); rintro e w' ⟨rfl, rfl⟩))
      go_quiet (first | (go_at_call 152; with_reducible exact Base.qsame (FB.out _ (Tab.drewN (HT.out.later (by (repeat' (first | assumption | exact Below.refl _ _ | apply Below.next_alloc | apply Below.drew | (apply Below.next; rotate_left; assumption))))) _))) | (go_at_call 150; with_reducible exact Base.qsame (F10.out _ (Base.below_drewN (by (repeat' (first | assumption | exact Below.refl _ _ | apply Below.next_alloc | apply Below.drew | (apply Below.next; rotate_left; assumption)))) _))))
      go_wp2_with (first
        | (go_at_call 153; (with_reducible refine (FO.out _ (Base.below_drewN (by (repeat' (first | assumption | exact Below.refl _ _ | apply Below.next_alloc | apply Below.drew | (apply Below.next; rotate_left; assumption)))) _)).mono ?_); rintro e w1 ⟨rfl, hB⟩))
      go_ret
      exact ⟨ret_b hr.out.symm, Below.next (Base.below_drewN (by (repeat' (first | assumption | exact Below.refl _ _ | apply Below.next_alloc | apply Below.drew | (apply Below.next; rotate_left; assumption)))) _) hB⟩
    · rw [Bool.true_and] at hr
      replace hr := Lib.hid hr
      go_enter Tryz.func111, Tryz.ntmps111
      go_wp2_with (first
        | (go_at_call 150; (with_reducible refine (F11.out _ (by (repeat' (first | assumption | exact Below.refl _ _ | apply Below.next_alloc | apply Below.drew | (apply Below.next; rotate_left; assumption))))).mono ?_); rintro e w' ⟨rfl, rfl⟩)
        | (go_at_call 150; (with_reducible refine (F9.out _ (by (repeat' (first | assumption | exact Below.refl _ _ | apply Below.next_alloc | apply Below.drew | (apply Below.next; rotate_left; assumption))))).mono ?_); rintro e w' ⟨rfl, rfl⟩)
        | (go_at_call 150; (with_reducible refine (F8.out _ (by (repeat' (first | assumption | exact Below.refl _ _ | apply Below.next_alloc | apply Below.drew | (apply Below.next; rotate_left; assumption))))).mono ?_); rintro e w' ⟨rfl, rfl⟩)
        | (go_at_call 151; (with_reducible refine (FN.out _ (HT.out.later (by (repeat' (first | assumption | exact Below.refl _ _ | apply Below.next_alloc | apply Below.drew | (apply Below.next; rotate_left; assumption)))))).mono ?_); rintro e w' ⟨rfl, rfl⟩))
      go_quiet (first | (go_at_call 152; with_reducible exact Base.qsame (FB.out _ (Tab.drewN (HT.out.later (by (repeat' (first | assumption | exact Below.refl _ _ | apply Below.next_alloc | apply Below.drew | (apply Below.next; rotate_left; assumption))))) _))) | (go_at_call 150; with_reducible exact Base.qsame (F10.out _ (Base.below_drewN (by (repeat' (first | assumption | exact Below.refl _ _ | apply Below.next_alloc | apply Below.drew | (apply Below.next; rotate_left; assumption)))) _))))
      go_wp2_with (first
        | (go_at_call 153; (with_reducible refine (FO.out _ (Base.below_drewN (by (repeat' (first | assumption | exact Below.refl _ _ | apply Below.next_alloc | apply Below.drew | (apply Below.next; rotate_left; assumption)))) _)).mono ?_); rintro e w1 ⟨rfl, hB⟩; obtain ⟨⟨x0, x1, x2, x3, x4, x5, x6, x7, x8, x9, x10, x11, x12, x13, x14⟩, ⟨y0, y1, y2, y3, y4, y5, y6, y7, y8, y9, y10⟩, ⟨z0, z1, z2, z3, z4, z5, z6, z7, z8, z9, z10⟩⟩ := HX.out _ (Below.next (Base.below_drewN (Below.refl _ _) _) hB); rw [E10.out] at x11)
        | (go_at_call 154; (with_reducible refine (FL.out _ (Below.next (Base.below_drewN (by (repeat' (first | assumption | exact Below.refl _ _ | apply Below.next_alloc | apply Below.drew | (apply Below.next; rotate_left; assumption)))) _) hB)).mono ?_); rintro e w2 ⟨rfl, hB2⟩))
      go_ret
      exact ⟨ret_b hr.out.symm, Below.next (Below.next (Base.below_drewN (by (repeat' (first | assumption | exact Below.refl _ _ | apply Below.next_alloc | apply Below.drew | (apply Below.next; rotate_left; assumption)))) _) hB) hB2⟩
  · rw [decide_eq_true (show r.weekno.length = 0 by omega), Bool.true_or, Bool.true_and] at hr
    cases b5
    · rw [Bool.false_and] at hr
      replace hr := Lib.hid hr
      go_enter Tryz.func111, Tryz.ntmps111
      go_wp2_with (first
        | (go_at_call 150; (with_reducible refine (F11.out _ (by (repeat' (first | assumption | exact Below.refl _ _ | apply Below.next_alloc | apply Below.drew | (apply Below.next; rotate_left; assumption))))).mono ?_); rintro e w' ⟨rfl, rfl⟩)
        | (go_at_call 150; (with_reducible refine (F9.out _ (by (repeat' (first | assumption | exact Below.refl _ _ | apply Below.next_alloc | apply Below.drew | (apply Below.next; rotate_left; assumption))))).mono ?_); rintro e w' ⟨rfl, rfl⟩)
        | (go_at_call 150; (with_reducible refine (F8.out _ (by (repeat' (first | assumption | exact Below.refl _ _ | apply Below.next_alloc | apply Below.drew | (apply Below.next; rotate_left; assumption))))).mono ?_); rintro e w' ⟨rfl, rfl⟩)
        | (go_at_call 153; (with_reducible refine (FO.out _ (by (repeat' (first | assumption | exact Below.refl _ _ | apply Below.next_alloc | apply Below.drew | (apply Below.next; rotate_left; assumption))))).mono ?_); rintro e w1 ⟨rfl, hB⟩))
      go_ret
      exact ⟨ret_b hr.out.symm, Below.next (by (repeat' (first | assumption | exact Below.refl _ _ | apply Below.next_alloc | apply Below.drew | (apply Below.next; rotate_left; assumption)))) hB⟩
    · rw [Bool.true_and] at hr
      replace hr := Lib.hid hr
      go_enter Tryz.func111, Tryz.ntmps111
      go_wp2_with (first
        | (go_at_call 150; (with_reducible refine (F11.out _ (by (repeat' (first | assumption | exact Below.refl _ _ | apply Below.next_alloc | apply Below.drew | (apply Below.next; rotate_left; assumption))))).mono ?_); rintro e w' ⟨rfl, rfl⟩)
        | (go_at_call 150; (with_reducible refine (F9.out _ (by (repeat' (first | assumption | exact Below.refl _ _ | apply Below.next_alloc | apply Below.drew | (apply Below.next; rotate_left; assumption))))).mono ?_); rintro e w' ⟨rfl, rfl⟩)
        | (go_at_call 150; (with_reducible refine (F8.out _ (by (repeat' (first | assumption | exact Below.refl _ _ | apply Below.next_alloc | apply Below.drew | (apply Below.next; rotate_left; assumption))))).mono ?_); rintro e w' ⟨rfl, rfl⟩)
        | (go_at_call 153; (with_reducible refine (FO.out _ (by (repeat' (first | assumption | exact Below.refl _ _ | apply Below.next_alloc | apply Below.drew | (apply Below.next; rotate_left; assumption))))).mono ?_); rintro e w1 ⟨rfl, hB⟩; obtain ⟨⟨x0, x1, x2, x3, x4, x5, x6, x7, x8, x9, x10, x11, x12, x13, x14⟩, ⟨y0, y1, y2, y3, y4, y5, y6, y7, y8, y9, y10⟩, ⟨z0, z1, z2, z3, z4, z5, z6, z7, z8, z9, z10⟩⟩ := HX.out _ (hB); rw [E10.out] at x11)
        | (go_at_call 154; (with_reducible refine (FL.out _ (Below.next (by (repeat' (first | assumption | exact Below.refl _ _ | apply Below.next_alloc | apply Below.drew | (apply Below.next; rotate_left; assumption)))) hB)).mono ?_); rintro e w2 ⟨rfl, hB2⟩))
      go_ret
      exact ⟨ret_b hr.out.symm, Below.next (Below.next (by (repeat' (first | assumption | exact Below.refl _ _ | apply Below.next_alloc | apply Below.drew | (apply Below.next; rotate_left; assumption)))) hB) hB2⟩
end Go.Proofs.YtkbohijlhhpfbaaGreatDoor.Da
