/- The laws RsetParts and RsetSteps: what they ask is true of every set. -/
import Derived.Test.YtkbohijlhhpfbaaGreatDoorVZx
import Derived.Test.YtkbohijlhhpfbaaGreatDoorVZv
import Derived.Test.YtkbohijlhhpfbaaGreatDoorVZw
namespace Go.Proofs.YtkbohijlhhpfbaaGreatDoor.Rs
open Go.RowKit Ru Ut Cw Ra Xp
theorem count_ge {s : St} (f0 : 0 ≤ s.rule.freq) (hc : chkS s = 0) : 0 ≤ s.rule.count := (head_ok (fineS f0 hc 0 0 0 false).2.1).2.2.1
theorem lpart_any (w : World) (s : St) (sv : Nat → Value) (vi vo : Value) (n0 n1 at_ : Int) (hT : Tab w) (hL0 : LS w s sv vi vo) (hA : ArgS s) (x0 : 0 ≤ n0 ∧ n0 ≤ 18446744073709551615) (x1 : 0 ≤ n1 ∧ n1 ≤ 18446744073709551615) (x2 : 0 ≤ at_ ∧ at_ ≤ 18446744073709551615) :
  Calls Tryz.prog 7 #[setV s sv vi vo, .agg #[.int .u64 n0, .int .u64 n1], .int .u64 at_] w fun e w' => e = .returned (.bool true) ∧ Below w.heap.size w w' := by
 obtain ⟨a, c, hq, hL⟩ := ls_q hL0
 unfold setV
 rw [hq]
 cases hsm : smS s
 ·exact lpart_no w (setQ s a c) n0 n1 at_ rfl (fsS hL hA hsm) (awS hT)
 obtain ⟨hW, -, hni, hno⟩ := sm_facts hA hsm
 have f0 := hA.2.1.1
 obtain ⟨A, hAA⟩ : ∃ A, n0 % 315537897600 = A := ⟨_, rfl⟩
 have a0 : 0 ≤ A ∧ A ≤ 315537897599 := by omega
 obtain ⟨r1, hr1⟩ : ∃ r1, n1 % (315537897601 - A) = r1 := ⟨_, rfl⟩
 have b0 : 0 ≤ r1 := by rw [← hr1]; exact Int.emod_nonneg _ (by omega)
 have b1 : r1 < 315537897601 - A := by rw [← hr1]; exact Int.emod_lt_of_pos _ (by omega)
 obtain ⟨B, hB⟩ : ∃ B, A + r1 = B := ⟨_, rfl⟩
 obtain ⟨r2, hr2⟩ : ∃ r2, at_ % (B - A + 1) = r2 := ⟨_, rfl⟩
 have c0 : 0 ≤ r2 := by rw [← hr2]; exact Int.emod_nonneg _ (by omega)
 have c1 : r2 < B - A + 1 := by rw [← hr2]; exact Int.emod_lt_of_pos _ (by omega)
 obtain ⟨M, hM⟩ : ∃ M, A + r2 = M := ⟨_, rfl⟩
 have hXc : ∀ SX W, XS s SX W → SX[4]? = some (.int .i64 s.rule.count) := by
  rintro SX W ⟨p, u, rfl, -⟩; rfl
 have FF : ∀ x y SX W, XS s SX W → Below w.heap.size w W → Calls Tryz.prog 22 #[.agg SX, .int .i64 x, .int .i64 y, .int .i64 4000] W fun r w' => ∃ v, r = .returned (.tuple #[v, .int .i64 (winF s x y 4000).2.1, .int .i64 (winF s x y 4000).2.2]) ∧ OwnI w' W.heap.size v (winF s x y 4000).1 ∧ Below W.heap.size W w' := by
  rintro x y SX W ⟨p, u, rfl, hX⟩ hB
  exact (pwindow_any W s p u x y 4000 (hT.later hB) hX hW).mono fun _ _ h => h
 by_cases he : (winF s A B 4000).2.2 = 0
 case neg =>
  have F1 := FF A B
  rw [win_err he] at F1
  exact lpart_err w _ rfl (XS s) (xs_ok s) (xs_later s) (fsS hL hA hsm) (foS hL hA hsm) (awS hT) _ _ _ _ _ _ _ _ _ hXc n0 n1 at_ A r1 B r2 M a0.1 a0.2 b0 (by omega) hB c0 (by omega) hM x0.1 x0.2 x1.1 x1.2 x2.1 x2.2 hAA hr1 hr2 F1 (FF A M) (FF M B) (bne_iff_ne.2 he) (beq_eq_false_iff_ne.2 he)
 have hc := (winF_ok f0 he).1
 have hcg := count_ge f0 hc
 have FW := FF A B
 rw [he] at FW
 have cost := fun x y (h1 : 0 ≤ x) (h2 : x ≤ y) (h3 : y ≤ B) (h4 : 0 < s.rule.count) => parts_cost f0 h1 h2 h3 he h4
 by_cases he1 : (winF s A M 4000).2.2 = 0
 case neg =>
  have h0 : s.rule.count = 0 := by
   by_cases h : 0 < s.rule.count
   ·exact absurd (cost A M (by omega) (by omega) (by omega) h).1 he1
   ·omega
  rw [h0] at hXc
  exact lpart_one w _ rfl (XS s) (xs_ok s) (xs_later s) (fsS hL hA hsm) (foS hL hA hsm) (awS hT) _ _ _ _ _ _ _ _ hXc n0 n1 at_ A r1 B r2 M a0.1 a0.2 b0 (by omega) hB c0 (by omega) hM x0.1 x0.2 x1.1 x1.2 x2.1 x2.2 hAA hr1 hr2 FW (FF A M) (FF M B) (bne_iff_ne.2 he1)
 have FA := FF A M
 rw [he1] at FA
 by_cases he2 : (winF s M B 4000).2.2 = 0
 case neg =>
  have h0 : s.rule.count = 0 := by
   by_cases h : 0 < s.rule.count
   ·exact absurd (cost M B (by omega) (by omega) (by omega) h).1 he2
   ·omega
  rw [h0] at hXc
  exact lpart_two w _ rfl (XS s) (xs_ok s) (xs_later s) (fsS hL hA hsm) (foS hL hA hsm) (awS hT) _ _ _ _ _ _ _ hXc n0 n1 at_ A r1 B r2 M a0.1 a0.2 b0 (by omega) hB c0 (by omega) hM x0.1 x0.2 x1.1 x1.2 x2.1 x2.2 hAA hr1 hr2 FW FA (FF M B) (bne_iff_ne.2 he2)
 have FB := FF M B
 rw [he2] at FB
 have hLL := parts_list f0 (a := A) (m := M) (b := B) (by omega) (by omega) he he1 he2
 have hlen := win_len f0 hni A B 4000
 have hrise := win_rise f0 he
 have hin : ∀ x ∈ (winF s A B 4000).1, A ≤ x ∧ x < B := fun x hx => ((win_mem f0 he x).1 hx).2
 have S1 : ∀ W v u, Ints W v (winF s A B 4000).1 → Ints W u (winF s A B 4000).1 → Calls Tryz.prog 14 #[v, u] W fun e w' => e = .returned (.bool true) ∧ Below W.heap.size W w' := fun W v u h1 h2 => same_eq h1 h2 (by omega)
 by_cases h0 : s.rule.count = 0
 ·rw [h0] at hXc
  exact lpart_none w _ rfl (XS s) (xs_ok s) (xs_later s) (fsS hL hA hsm) (foS hL hA hsm) (awS hT) _ _ _ _ _ _ hXc n0 n1 at_ A r1 B r2 M a0.1 a0.2 b0 (by omega) hB c0 (by omega) hM x0.1 x0.2 x1.1 x1.2 x2.1 x2.2 hAA hr1 hr2 FW FA FB hLL (by omega) hrise hin S1
 ·exact lpart_some w _ rfl (XS s) (xs_ok s) (xs_later s) (fsS hL hA hsm) (foS hL hA hsm) (awS hT) _ _ _ _ _ _ _ hXc n0 n1 at_ A r1 B r2 M a0.1 a0.2 b0 (by omega) hB c0 (by omega) hM x0.1 x0.2 x1.1 x1.2 x2.1 x2.2 hAA hr1 hr2 FW FA FB (beq_eq_false_iff_ne.2 h0) (cost A M (by omega) (by omega) (by omega) (by omega)).2 (cost M B (by omega) (by omega) (by omega) (by omega)).2 hLL (by omega) hrise hin S1
theorem lstep_any (w : World) (s : St) (sv : Nat → Value) (vi vo : Value) (n0 n1 : Int) (hT : Tab w) (hL0 : LS w s sv vi vo) (hA : ArgS s) (x0 : 0 ≤ n0 ∧ n0 ≤ 18446744073709551615) (x1 : 0 ≤ n1 ∧ n1 ≤ 18446744073709551615) :
  Calls Tryz.prog 8 #[setV s sv vi vo, .agg #[.int .u64 n0, .int .u64 n1]] w fun e w' => e = .returned (.bool true) ∧ Below w.heap.size w w' := by
 obtain ⟨a, c, hq, hL⟩ := ls_q hL0
 unfold setV
 rw [hq]
 cases hsm : smS s
 ·exact lstep_no w (setQ s a c) n0 n1 rfl (fsS hL hA hsm) (awS hT)
 obtain ⟨hW, -, hni, hno⟩ := sm_facts hA hsm
 have f0 := hA.2.1.1
 obtain ⟨A, hAA⟩ : ∃ A, n0 % 315537897600 = A := ⟨_, rfl⟩
 have a0 : 0 ≤ A ∧ A ≤ 315537897599 := by omega
 obtain ⟨r1, hr1⟩ : ∃ r1, n1 % (315537897601 - A) = r1 := ⟨_, rfl⟩
 have b0 : 0 ≤ r1 := by rw [← hr1]; exact Int.emod_nonneg _ (by omega)
 have b1 : r1 < 315537897601 - A := by rw [← hr1]; exact Int.emod_lt_of_pos _ (by omega)
 obtain ⟨B, hB⟩ : ∃ B, A + r1 = B := ⟨_, rfl⟩
 have FW : ∀ SX W, XS s SX W → Below w.heap.size w W → Calls Tryz.prog 22 #[.agg SX, .int .i64 A, .int .i64 B, .int .i64 4000] W fun r w' => ∃ v, r = .returned (.tuple #[v, .int .i64 (winF s A B 4000).2.1, .int .i64 (winF s A B 4000).2.2]) ∧ OwnI w' W.heap.size v (winF s A B 4000).1 ∧ Below W.heap.size W w' := by
  rintro SX W ⟨p, u, rfl, hX⟩ hB
  exact (pwindow_any W s p u A B 4000 (hT.later hB) hX hW).mono fun _ _ h => h
 by_cases he : (winF s A B 4000).2.2 = 0
 case neg =>
  exact lstep_err w _ rfl (XS s) (xs_ok s) (xs_later s) (fsS hL hA hsm) (foS hL hA hsm) (awS hT) _ _ _ n0 n1 A r1 B a0.1 a0.2 b0 (by omega) hB x0.1 x0.2 x1.1 x1.2 hAA hr1 FW (bne_iff_ne.2 he)
 have hc := (winF_ok f0 he).1
 rw [he] at FW
 have hlen := win_len f0 hni A B 4000
 by_cases h40 : 40 < (winF s A B 4000).1.length
 ·exact lstep_long w _ rfl (XS s) (xs_ok s) (xs_later s) (fsS hL hA hsm) (foS hL hA hsm) (awS hT) _ _ n0 n1 A r1 B a0.1 a0.2 b0 (by omega) hB x0.1 x0.2 x1.1 x1.2 hAA hr1 FW h40 (by omega)
 refine lstep_ok w _ rfl (XS s) (xs_ok s) (xs_later s) (fsS hL hA hsm) (foS hL hA hsm) (awS hT) _ _ n0 n1 A r1 B a0.1 a0.2 b0 (by omega) hB x0.1 x0.2 x1.1 x1.2 hAA hr1 FW (by omega) (fun q => (nextF s q 1000).1) (fun q => (nextF s q 1000).2.1) (fun q => (nextF s q 1000).2.2) ?_ ?_
 ·rintro q SX W ⟨p, u, rfl, hX⟩ hB
  exact pnext_any W s p u q 1000 (hT.later hB) hX hW
 ·intro k q hp
  have hqb : -1 ≤ q ∧ q ≤ 315537897599 := by
   rcases hp with ⟨-, rfl⟩ | ⟨j, hj, -, rfl⟩
   ·omega
   ·have := ((win_mem f0 he _).1 (List.getElem_mem hj)).2
    omega
  refine ⟨(next_err hc (by unfold badN; omega)).symm, fun hn => ⟨fun hk => steps_in f0 he hk hp hn, fun hk => ?_⟩⟩
  subst hk
  exact steps_end f0 he hp hn
end Go.Proofs.YtkbohijlhhpfbaaGreatDoor.Rs
