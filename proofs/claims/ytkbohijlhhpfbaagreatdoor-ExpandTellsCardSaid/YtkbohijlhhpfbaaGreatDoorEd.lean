/- The walk through errandref23's lets, with numbers of weeks (printed by gen_rlets.py). -/
import Derived.Test.YtkbohijlhhpfbaaGreatDoorEd0
namespace Go.Proofs.YtkbohijlhhpfbaaGreatDoor.Da
open Go.RowKit Ru Ut Cw Ra
set_option maxHeartbeats 16000000 in
set_option maxRecDepth 100000 in
theorem rlets_w (w : World) (r : R) (sv : Nat → Value) (start n : Int) (hd : Civ.isDay n = true) (h0 : 0 ≤ start) (h1 : start ≤ 315537897599) (hL : Lists w r sv) (hn : Short r) (h10 : 0 < r.weekno.length) : Calls Tryz.prog 119 #[ruleV r sv, .int .i64 start, .int .i64 n] w fun e w' => e = .returned (.bool (Dy.lets r (Dy.about (start / 86400)) (Dy.about n))) ∧ Below w.heap.size w w' := by
  have hds : Civ.isDay (start / 86400) = true := (Civ.isDay_iff _).2 (by omega)
  obtain ⟨f, hf⟩ : ∃ f, Dy.about n = f := ⟨_, rfl⟩
  obtain ⟨s, hs⟩ : ∃ s, Dy.about (start / 86400) = s := ⟨_, rfl⟩
  have hbd := Dy.about_bd n
  have FD := rDate_any n
  have FY := rDays_any (Civ.dateY n)
  have FL := rLen_any (Civ.dateY n) (Civ.dateM n)
  have FP := rPlace_any n
  have FN := rNumber_any n r.wkst
  have FB := rBack_any n r.wkst
  rw [show Civ.len (Civ.dateY n) (Civ.dateM n) = f.inMonth by rw [← hf, about_at hd]] at FL
  rw [show Civ.days (Civ.dateY n) = f.inYear by rw [← hf, about_at hd]] at FY
  rw [show Civ.dateM n = f.month by rw [← hf, about_at hd]] at FL
  rw [show Civ.dateM n = f.month by rw [← hf, about_at hd], show Civ.dateD n = f.date by rw [← hf, about_at hd]] at FD
  rw [show Civ.place n = f.place by rw [← hf, about_at hd]] at FP
  have hday : f.day = n := by rw [← hf, about_at hd]
  generalize Civ.dateY n = y at FD FY FL
  generalize Civ.dateE n = x at FD
  rw [hf] at hbd
  obtain ⟨t7, u7⟩ : ∃ t, r.day.any (Dy.hit f (Dy.ways r f)) = t := ⟨_, rfl⟩
  obtain ⟨t8, u8⟩ : ∃ t, both r.mday f.date f.inMonth = t := ⟨_, rfl⟩
  obtain ⟨t9, u9⟩ : ∃ t, both r.yday f.place f.inYear = t := ⟨_, rfl⟩
  obtain ⟨t10, u10⟩ : ∃ t, decide (Wk.numN n r.wkst ∈ r.weekno) = t := ⟨_, rfl⟩
  obtain ⟨t12, u12⟩ : ∃ t, decide (Wk.backN n r.wkst ∈ r.weekno) = t := ⟨_, rfl⟩
  obtain ⟨t11, u11⟩ : ∃ t, decide (f.month ∈ r.month) = t := ⟨_, rfl⟩
  obtain ⟨b6, g6⟩ : ∃ b, Dy.likeStart r s f = b := ⟨_, rfl⟩
  have hr := Lib.hid (lets_eq' r s f (b1 := decide (r.month.length = 0) || t11) (b2 := decide (r.yday.length = 0) || t9) (b3 := decide (r.mday.length = 0) || t8) (b4 := decide (r.weekno.length = 0) || (t10 || t12)) (b5 := decide (r.day.length = 0) || t7) (b6 := b6) (by rw [has_same, u11]) (by rw [has_both, u9]) (by rw [has_both, u8]) (by rw [hday]; unfold Dy.has; rw [u10, u12]) (by unfold Dy.onDay; rw [u7]) g6)
  have H11 : ∀ W, Below w.heap.size w W → Calls Tryz.prog 44 #[sv 11, .int .i64 f.month] W fun e w' => e = .returned (.bool t11) ∧ W = w' := fun W hB => by
    have := rHas_any f.month ((hL.1 11 (by decide) (by decide) (by decide)).below hB) (Nat.le_trans (hn.1 11 (by decide) (by decide) (by decide)) (by decide)); rwa [show lst r 11 = r.month from rfl, u11] at this
  have H10 : ∀ W, Below w.heap.size w W → Calls Tryz.prog 44 #[sv 10, .int .i64 (Wk.numN n r.wkst)] W fun e w' => e = .returned (.bool t10) ∧ W = w' := fun W hB => by
    have := rHas_any (Wk.numN n r.wkst) ((hL.1 10 (by decide) (by decide) (by decide)).below hB) (Nat.le_trans (hn.1 10 (by decide) (by decide) (by decide)) (by decide)); rwa [show lst r 10 = r.weekno from rfl, u10] at this
  have H12 : ∀ W, Below w.heap.size w W → Calls Tryz.prog 44 #[sv 10, .int .i64 (Wk.backN n r.wkst)] W fun e w' => e = .returned (.bool t12) ∧ W = w' := fun W hB => by
    have := rHas_any (Wk.backN n r.wkst) ((hL.1 10 (by decide) (by decide) (by decide)).below hB) (Nat.le_trans (hn.1 10 (by decide) (by decide) (by decide)) (by decide)); rwa [show lst r 10 = r.weekno from rfl, u12] at this
  have H9 : ∀ W, Below w.heap.size w W → Calls Tryz.prog 162 #[sv 9, .int .i64 f.place, .int .i64 f.inYear] W fun e w' => e = .returned (.bool t9) ∧ W = w' := fun W hB => by
    have := both_any f.place f.inYear ((hL.1 9 (by decide) (by decide) (by decide)).below hB) (hn.1 9 (by decide) (by decide) (by decide)) (by omega) (by omega) (by omega) (by omega); rwa [show lst r 9 = r.yday from rfl, u9] at this
  have H8 : ∀ W, Below w.heap.size w W → Calls Tryz.prog 162 #[sv 8, .int .i64 f.date, .int .i64 f.inMonth] W fun e w' => e = .returned (.bool t8) ∧ W = w' := fun W hB => by
    have := both_any f.date f.inMonth ((hL.1 8 (by decide) (by decide) (by decide)).below hB) (hn.1 8 (by decide) (by decide) (by decide)) (by omega) (by omega) (by omega) (by omega); rwa [show lst r 8 = r.mday from rfl, u8] at this
  have H7 : ∀ W, Below w.heap.size w W → Calls Tryz.prog 164 #[ruleV r sv, .int .i64 n] W fun e w' => e = .returned (.bool t7) ∧ Below W.heap.size W w' := fun W hB => by
    have := weekday_any W r sv n hd (hL.later hB) hn; rwa [hf, u7] at this
  have FU : ∀ W, Below w.heap.size w W → Calls Tryz.prog 165 #[ruleV r sv, .int .i64 (start / 86400), .int .i64 n] W fun e w' => e = .returned (.bool b6) ∧ Below W.heap.size W w' := fun W hB => by
    have := untold_any W r sv (start / 86400) n hds hd (hL.later hB) hn; rwa [hf, hs, g6] at this
  rw [hf, hs]
  generalize Wk.numN n r.wkst = j1 at *
  generalize Wk.backN n r.wkst = j2 at *
  generalize Wk.numY n r.wkst = j3 at *
  clear hf hs hday hds u7 u8 u9 u10 u11 u12 g6 hd
  have n7 := hn.2
  have n8 : r.mday.length ≤ 1000 := hn.1 8 (by decide) (by decide) (by decide)
  have n9 : r.yday.length ≤ 1000 := hn.1 9 (by decide) (by decide) (by decide)
  have n10 : r.weekno.length ≤ 1000 := hn.1 10 (by decide) (by decide) (by decide)
  have n11 : r.month.length ≤ 1000 := hn.1 11 (by decide) (by decide) (by decide)
  obtain ⟨a7, k7, e7⟩ := hL.2.slice
  obtain ⟨a8, k8, e8⟩ := (hL.1 8 (by decide) (by decide) (by decide)).slice
  change sv 8 = .slice a8 r.mday.length k8 at e8
  obtain ⟨a9, k9, e9⟩ := (hL.1 9 (by decide) (by decide) (by decide)).slice
  change sv 9 = .slice a9 r.yday.length k9 at e9
  obtain ⟨a10, k10, e10⟩ := (hL.1 10 (by decide) (by decide) (by decide)).slice
  change sv 10 = .slice a10 r.weekno.length k10 at e10
  obtain ⟨a11, k11, e11⟩ := (hL.1 11 (by decide) (by decide) (by decide)).slice
  change sv 11 = .slice a11 r.month.length k11 at e11
  have RB := RAt.box w r sv 27
  have CF : ∀ W, RAt W w.heap.size r sv → W.cell? ⟨w.heap.size, 0, none⟩ = some (.int .u8 r.freq) ∧ W.cell? ⟨w.heap.size, 1, none⟩ = some (.int .i64 r.interval) ∧ W.cell? ⟨w.heap.size, 2, none⟩ = some (.int .i64 r.count) ∧ W.cell? ⟨w.heap.size, 3, none⟩ = some (.int .u8 r.uk) ∧ W.cell? ⟨w.heap.size, 4, none⟩ = some (.int .i64 r.us) ∧ W.cell? ⟨w.heap.size, 5, none⟩ = some (sv 4) ∧ W.cell? ⟨w.heap.size, 6, none⟩ = some (sv 5) ∧ W.cell? ⟨w.heap.size, 7, none⟩ = some (sv 6) ∧ W.cell? ⟨w.heap.size, 8, none⟩ = some (.slice a7 r.day.length k7) ∧ W.cell? ⟨w.heap.size, 9, none⟩ = some (.slice a8 r.mday.length k8) ∧ W.cell? ⟨w.heap.size, 10, none⟩ = some (.slice a9 r.yday.length k9) ∧ W.cell? ⟨w.heap.size, 11, none⟩ = some (.slice a10 r.weekno.length k10) ∧ W.cell? ⟨w.heap.size, 12, none⟩ = some (.slice a11 r.month.length k11) ∧ W.cell? ⟨w.heap.size, 13, none⟩ = some (sv 12) ∧ W.cell? ⟨w.heap.size, 14, none⟩ = some (.int .i64 r.wkst) := fun W h => ⟨h.2.1, h.2.2.1, h.2.2.2.1, h.2.2.2.2.1, h.2.2.2.2.2.1, (h.2.2.2.2.2.2.2 4 (by decide) (by decide)), (h.2.2.2.2.2.2.2 5 (by decide) (by decide)), (h.2.2.2.2.2.2.2 6 (by decide) (by decide)), (h.2.2.2.2.2.2.2 7 (by decide) (by decide)).trans (by rw [e7]), (h.2.2.2.2.2.2.2 8 (by decide) (by decide)).trans (by rw [e8]), (h.2.2.2.2.2.2.2 9 (by decide) (by decide)).trans (by rw [e9]), (h.2.2.2.2.2.2.2 10 (by decide) (by decide)).trans (by rw [e10]), (h.2.2.2.2.2.2.2 11 (by decide) (by decide)).trans (by rw [e11]), (h.2.2.2.2.2.2.2 12 (by decide) (by decide)), h.2.2.2.2.2.2.1⟩
  unfold ruleV ruleC at *
  rw [e7, e8, e9, e10, e11] at H7 FU RB ⊢
  rw [e11] at H11
  rw [e10] at H10 H12
  rw [e9] at H9
  rw [e8] at H8
  replace H7 := Lib.hid H7
  replace H8 := Lib.hid H8
  replace H9 := Lib.hid H9
  replace H10 := Lib.hid H10
  replace H11 := Lib.hid H11
  replace H12 := Lib.hid H12
  replace FU := Lib.hid FU
  replace FD := Lib.hid FD
  replace FY := Lib.hid FY
  replace FL := Lib.hid FL
  replace FP := Lib.hid FP
  replace FN := Lib.hid FN
  replace FB := Lib.hid FB
  replace RB := Lib.hid RB
  replace CF := Lib.hid CF
  obtain ⟨-, -, m0, m1, d0, d1, -, -, L0, L1, Y0, Y1, p0, p1⟩ := hbd
  clear e7 e8 e9 e10 e11 hL hn
  go_enter Tryz.func119, Tryz.ntmps119
  go_upto_region 2 with (first | (go_at_call 114; (with_reducible refine (FD.out _).mono ?_); rintro e w' ⟨rfl, rfl⟩))
  go_cut [30] (fun c wx => c = .bool (!(decide (r.month.length = 0) || t11)) ∧ Hid (RAt wx w.heap.size r sv) ∧ Hid (Below w.heap.size w wx))
  case first =>
    by_cases hm : 0 < r.month.length
    · have hb := Lib.hid (or_pos (b := t11) hm)
      go_wp2_with (first | (go_at_call 44; (with_reducible refine (H11.out _ (by (repeat' (first | assumption | exact Below.refl _ _ | apply Below.next_alloc | apply Below.drew | (apply Below.next; rotate_left; assumption))))).mono ?_); rintro e w' ⟨rfl, rfl⟩))
      go_meet
      exact ⟨by rw [hb.out], RB, Lib.hid (by (repeat' (first | assumption | exact Below.refl _ _ | apply Below.next_alloc | apply Below.drew | (apply Below.next; rotate_left; assumption))))⟩
    · have hb := Lib.hid (or_zero (b := t11) hm)
      go_wp2_with fail
      go_meet
      exact ⟨by rw [hb.out]; rfl, RB, Lib.hid (by (repeat' (first | assumption | exact Below.refl _ _ | apply Below.next_alloc | apply Below.drew | (apply Below.next; rotate_left; assumption))))⟩
  case rest =>
  obtain ⟨rfl, hR, hB⟩ := hcut
  replace RB := hR
  generalize (decide (r.month.length = 0) || t11) = b1 at *
  cases b1
  · replace hr := Lib.hid (hr.out.trans (show _ = false by simp))
    go_wp2
    go_ret
    exact ⟨ret_b hr.out.symm, hB.out⟩
  have h10n : r.weekno ≠ [] := fun h => by rw [h] at h10; exact absurd h10 (by decide)
  have hw := Lib.hid (or_pos (b := (t10 || t12)) h10)
  obtain ⟨c0, c1, c2, c3, c4, c5, c6, c7, c8, c9, c10, c11, c12, c13, c14⟩ := CF.out _ hR.out
  have hlt := hR.out.1
  go_upto_region 6 with (first | (go_at_call 160; (with_reducible refine (FN.out _).mono ?_); rintro e w' ⟨rfl, rfl⟩))
  go_cut [56] (fun c wx => c = .bool (!(t10 || t12)) ∧ Hid (RAt wx w.heap.size r sv) ∧ Hid (Below w.heap.size w wx))
  case first =>
    cases t10
    · go_quiet ((first | (go_at_call 161; with_reducible exact Base.qsame (FB.out _)) | (go_at_call 44; with_reducible exact Base.qsame (H10.out _ (Base.below_drewN hB.out _))) | (go_at_call 44; with_reducible exact Base.qsame (H12.out _ (Base.below_drewN hB.out _)))))
      go_wp2
      go_meet
      exact ⟨rfl, Lib.hid (hR.out.later (Base.below_drewN (Below.refl _ _) _)), Lib.hid (Base.below_drewN hB.out _)⟩
    · go_quiet ((first | (go_at_call 161; with_reducible exact Base.qsame (FB.out _)) | (go_at_call 44; with_reducible exact Base.qsame (H10.out _ (Base.below_drewN hB.out _))) | (go_at_call 44; with_reducible exact Base.qsame (H12.out _ (Base.below_drewN hB.out _)))))
      go_wp2
      go_meet
      exact ⟨rfl, Lib.hid (hR.out.later (Base.below_drewN (Below.refl _ _) _)), Lib.hid (Base.below_drewN hB.out _)⟩
  case rest =>
  have hrw := hr.out
  rw [hw.out] at hrw
  replace hr := Lib.hid hrw
  clear hrw
  clear c0 c1 c2 c3 c4 c5 c6 c7 c8 c9 c10 c11 c12 c13 c14 hlt
  clear hR hB
  obtain ⟨rfl, hR, hB⟩ := hcut
  generalize (t10 || t12) = b at *
  cases b
  · replace hr := Lib.hid (hr.out.trans (show _ = false by simp [h10n]))
    go_wp2
    go_ret
    exact ⟨ret_b hr.out.symm, hB.out⟩
  obtain ⟨c0, c1, c2, c3, c4, c5, c6, c7, c8, c9, c10, c11, c12, c13, c14⟩ := CF.out _ hR.out
  have hlt := hR.out.1
  go_upto_region 8 with fail
  go_cut [70] (fun c wx => c = .bool (!(decide (r.yday.length = 0) || t9)) ∧ Hid (RAt wx w.heap.size r sv) ∧ Hid (Below w.heap.size w wx))
  case first =>
    by_cases hm : 0 < r.yday.length
    · have hb := Lib.hid (or_pos (b := t9) hm)
      have hd := decide_eq_true hm
      go_quiet ((first | (go_at_call 163; with_reducible exact Base.qsame (FP.out _)) | (go_at_call 83; with_reducible exact Base.qsame (FY.out _)) | (go_at_call 162; with_reducible exact Base.qsame (H9.out _ (Base.below_drewN hB.out _)))))
      go_wp2
      go_meet
      exact ⟨by rw [hb.out], Lib.hid (hR.out.later (Base.below_drewN (Below.refl _ _) _)), Lib.hid (Base.below_drewN hB.out _)⟩
    · have hb := Lib.hid (or_zero (b := t9) hm)
      have hd := decide_eq_false hm
      go_quiet (fail)
      go_wp2
      go_meet
      exact ⟨by rw [hb.out]; rfl, Lib.hid (hR.out.later (Base.below_drewN (Below.refl _ _) _)), Lib.hid (Base.below_drewN hB.out _)⟩
  case rest =>
  clear c0 c1 c2 c3 c4 c5 c6 c7 c8 c9 c10 c11 c12 c13 c14 hlt
  clear hR hB
  obtain ⟨rfl, hR, hB⟩ := hcut
  generalize (decide (r.yday.length = 0) || t9) = b at *
  cases b
  · replace hr := Lib.hid (hr.out.trans (show _ = false by simp [h10n]))
    go_wp2
    go_ret
    exact ⟨ret_b hr.out.symm, hB.out⟩
  obtain ⟨c0, c1, c2, c3, c4, c5, c6, c7, c8, c9, c10, c11, c12, c13, c14⟩ := CF.out _ hR.out
  have hlt := hR.out.1
  go_upto_region 10 with fail
  go_cut [84] (fun c wx => c = .bool (!(decide (r.mday.length = 0) || t8)) ∧ Hid (RAt wx w.heap.size r sv) ∧ Hid (Below w.heap.size w wx))
  case first =>
    by_cases hm : 0 < r.mday.length
    · have hb := Lib.hid (or_pos (b := t8) hm)
      have hd := decide_eq_true hm
      go_quiet ((first | (go_at_call 82; with_reducible exact Base.qsame (FL.out _)) | (go_at_call 162; with_reducible exact Base.qsame (H8.out _ (Base.below_drewN hB.out _)))))
      go_wp2
      go_meet
      exact ⟨by rw [hb.out], Lib.hid (hR.out.later (Base.below_drewN (Below.refl _ _) _)), Lib.hid (Base.below_drewN hB.out _)⟩
    · have hb := Lib.hid (or_zero (b := t8) hm)
      have hd := decide_eq_false hm
      go_quiet (fail)
      go_wp2
      go_meet
      exact ⟨by rw [hb.out]; rfl, Lib.hid (hR.out.later (Base.below_drewN (Below.refl _ _) _)), Lib.hid (Base.below_drewN hB.out _)⟩
  case rest =>
  clear c0 c1 c2 c3 c4 c5 c6 c7 c8 c9 c10 c11 c12 c13 c14 hlt
  clear hR hB
  obtain ⟨rfl, hR, hB⟩ := hcut
  generalize (decide (r.mday.length = 0) || t8) = b at *
  cases b
  · replace hr := Lib.hid (hr.out.trans (show _ = false by simp [h10n]))
    go_wp2
    go_ret
    exact ⟨ret_b hr.out.symm, hB.out⟩
  obtain ⟨c0, c1, c2, c3, c4, c5, c6, c7, c8, c9, c10, c11, c12, c13, c14⟩ := CF.out _ hR.out
  have hlt := hR.out.1
  go_upto_region 12 with fail
  go_cut [94] (fun c wx => c = .bool (!(decide (r.day.length = 0) || t7)) ∧ Hid (RAt wx w.heap.size r sv) ∧ Hid (Below w.heap.size w wx))
  case first =>
    by_cases hm : 0 < r.day.length
    · have hb := Lib.hid (or_pos (b := t7) hm)
      go_wp2_with (first | (go_at_call 164; (with_reducible refine (H7.out _ hB.out).mono ?_); rintro e w7 ⟨rfl, hB7⟩))
      go_meet
      exact ⟨by rw [hb.out], Lib.hid (hR.out.later hB7), Lib.hid (Below.next hB.out hB7)⟩
    · have hb := Lib.hid (or_zero (b := t7) hm)
      go_wp2_with fail
      go_meet
      exact ⟨by rw [hb.out]; rfl, hR, hB⟩
  case rest =>
  clear c0 c1 c2 c3 c4 c5 c6 c7 c8 c9 c10 c11 c12 c13 c14 hlt
  clear hR hB
  obtain ⟨rfl, hR, hB⟩ := hcut
  generalize (decide (r.day.length = 0) || t7) = b at *
  cases b
  · replace hr := Lib.hid (hr.out.trans (show _ = false by simp [h10n]))
    go_wp2
    go_ret
    exact ⟨ret_b hr.out.symm, hB.out⟩
  obtain ⟨c0, c1, c2, c3, c4, c5, c6, c7, c8, c9, c10, c11, c12, c13, c14⟩ := CF.out _ hR.out
  have hlt := hR.out.1
  replace hr := Lib.hid (hr.out.trans (show _ = b6 by simp [h10n]))
  go_wp2_with (first | (go_at_call 165; (with_reducible refine (FU.out _ hB.out).mono ?_); rintro e w8 ⟨rfl, hB8⟩))
  go_ret
  exact ⟨ret_b hr.out.symm, Below.next hB.out hB8⟩
end Go.Proofs.YtkbohijlhhpfbaaGreatDoor.Da
