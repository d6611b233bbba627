/- The walk through errandref26's Check: the dates that are taken out (printed by gen_rcheck.py). -/
import Derived.Test.YtkbohijlhhpfbaaGreatDoorVYy
namespace Go.Proofs.YtkbohijlhhpfbaaGreatDoor.Rs
open Go.RowKit Ru Ut Cw Ra Xp
set_option maxHeartbeats 16000000 in
set_option maxRecDepth 100000 in
theorem rc7 (w : World) (s : St) (a : Nat → Option Addr) (c : Nat → Nat) (hL : LS w s (svQ s.rule a c) (.slice (a 13) s.inn.length (c 13)) (.slice (a 14) s.out.length (c 14))) (hW : WS s) (h1 : ¬ Mo.chk s.kind s.sec ≠ 0) (h2 : ¬ chkR s.rule ≠ 0) (h3 : ¬ (s.rule.uk ≠ 0 ∧ s.rule.uk ≠ s.kind)) (h4 : ¬ (timed s.rule ∧ s.kind = 1)) (h5 : ¬ (12 < s.inn.length ∨ 12 < s.out.length)) (h6 : ¬ alike s.kind s.inn ≠ 0) :
  Calls Tryz.prog 27 #[.agg (setQ s a c)] w fun e w' => e = .returned (.int .i64 (chkS s)) ∧ Below w.heap.size w w' := by
 unfold chkS
 have FM := fun W => Ma.rcheck_any s.kind s.sec hW.2.1 W
 have FR : ∀ W, Below w.heap.size w W → Calls Tryz.prog 37 #[.agg #[.int .u8 s.rule.freq, .int .i64 s.rule.interval, .int .i64 s.rule.count, .int .u8 s.rule.uk, .int .i64 s.rule.us, .slice (a 4) s.rule.sec.length (c 4), .slice (a 5) s.rule.min.length (c 5), .slice (a 6) s.rule.hour.length (c 6), .slice (a 7) s.rule.day.length (c 7), .slice (a 8) s.rule.mday.length (c 8), .slice (a 9) s.rule.yday.length (c 9), .slice (a 10) s.rule.weekno.length (c 10), .slice (a 11) s.rule.month.length (c 11), .slice (a 12) s.rule.setpos.length (c 12), .int .i64 s.rule.wkst]] W fun e w' => e = .returned (.int .i64 (chkR s.rule)) ∧ Below W.heap.size W w' := fun W hB => rcheckR_any W s.rule (svQ s.rule a c) (hL.1.later hB) hW.1.1 hW.1.2.1.2 hW.1.2.1.1
 have FI : ∀ W, Below w.heap.size w W → Calls Tryz.prog 60 #[.slice (a 13) s.inn.length (c 13), .int .u8 s.kind] W fun e w' => e = .returned (.int .i64 (alike s.kind s.inn)) ∧ Below W.heap.size W w' := fun W hB => rdates_any s.kind (hL.2.1.below hB) hW.2.2.1 (by have := hW.2.2.2.2.1; omega)
 have FO : ∀ W, Below w.heap.size w W → Calls Tryz.prog 60 #[.slice (a 14) s.out.length (c 14), .int .u8 s.kind] W fun e w' => e = .returned (.int .i64 (alike s.kind s.out)) ∧ Below W.heap.size W w' := fun W hB => rdates_any s.kind (hL.2.2.below hB) hW.2.2.2.1 (by have := hW.2.2.2.2.2; omega)
 have n4 : s.rule.sec.length ≤ 1000 := hW.1.1.1 4 (by decide) (by decide) (by decide)
 have n5 : s.rule.min.length ≤ 1000 := hW.1.1.1 5 (by decide) (by decide) (by decide)
 have n6 : s.rule.hour.length ≤ 1000 := hW.1.1.1 6 (by decide) (by decide) (by decide)
 have ni := hW.2.2.2.2.1
 have no := hW.2.2.2.2.2
 unfold setQ Ma.val at *
 clear hL hW
 rw [if_neg h1]
 have h1' : Mo.chk s.kind s.sec = 0 := Decidable.byContradiction h1
 rw [h1'] at FM
 clear h1 h1'
 rw [if_neg h2]
 have h2' : chkR s.rule = 0 := Decidable.byContradiction h2
 rw [h2'] at FR
 clear h2 h2'
 rw [if_neg h3]
 have hu : (s.rule.uk != 0) = false ∨ ((s.rule.uk != 0) = true ∧ (s.rule.uk != s.kind) = false) := by
  by_cases h : s.rule.uk = 0
  ·exact .inl (by simp [h])
  ·exact .inr ⟨by simp [h], by simp; exact Decidable.byContradiction fun hh => h3 ⟨h, hh⟩⟩
 clear h3
 rw [if_neg h4]
 have ht : (s.kind == 1) = false ∨ ((s.kind == 1) = true ∧ 3 ≤ s.rule.freq ∧ ¬ (0 : Int) < (s.rule.hour.length : Int) + (s.rule.min.length : Int) + (s.rule.sec.length : Int)) := by
  by_cases h : s.kind = 1
  ·refine .inr ⟨by simp [h], ?_⟩
   have : ¬ timed s.rule := fun hh => h4 ⟨hh, h⟩
   unfold timed at this
   omega
  ·exact .inl (by simp [h])
 clear h4
 rw [if_neg h5]
 have hm1 : ¬ (12 : Int) < (s.inn.length : Int) := by omega
 have hm2 : ¬ (12 : Int) < (s.out.length : Int) := by omega
 clear h5
 rw [if_neg h6]
 have h6' : alike s.kind s.inn = 0 := Decidable.byContradiction h6
 rw [h6'] at FI
 clear h6 h6'
 replace FM := Lib.hid FM
 replace FR := Lib.hid FR
 replace FI := Lib.hid FI
 replace FO := Lib.hid FO
 generalize s.rule.hour.length = m6 at *
 generalize s.rule.min.length = m5 at *
 generalize s.rule.sec.length = m4 at *
 rcases hu with hu | ⟨hu, hu2⟩
 all_goals
  rcases ht with ht | ⟨ht, ht1, ht2⟩
 all_goals
  as_aux_lemma =>
  go_enter Tryz.func27, Tryz.ntmps27
  go_wp2_with (first
   | (go_at_call 59; (with_reducible refine (FM.out _).mono ?_); rintro e w1 ⟨rfl, hB1⟩; have K1 := Lib.hid (Blk.mk hB1); have B1 := Lib.hid (Below.next (Below.next_alloc (Below.refl _ w) _) hB1); clear hB1; obtain ⟨s0, s1, s2, s3, s4, s5, s6, s7, s8, s9, s10, s11, s12, s13, s14, s15, s16, s17, s18⟩ := K1.out.nineteen; have z1 := K1.out.1)
   | (go_at_call 37; (with_reducible refine (FR.out _ (Below.next_alloc B1.out _)).mono ?_); rintro e w2 ⟨rfl, hB2⟩; have KR := Lib.hid (Blk.mk hB2); have b2 := Lib.hid (Below.next (Below.next_alloc (Below.refl _ w1) _) hB2); have B2 := Lib.hid (Below.next B1.out b2.out); have K2 := Lib.hid (K1.out.later b2.out K1.out.1); clear hB2 s0 s1 s2 s3 s4 s5 s6 s7 s8 s9 s10 s11 s12 s13 s14 s15 s16 s17 s18 z1; obtain ⟨s0, s1, s2, s3, s4, s5, s6, s7, s8, s9, s10, s11, s12, s13, s14, s15, s16, s17, s18⟩ := K2.out.nineteen; obtain ⟨r0, r1, r2, r3, r4, r5, r6, r7, r8, r9, r10, r11, r12, r13, r14⟩ := KR.out.fifteen; have z2 := K2.out.1; have z2r := KR.out.1)
   | (go_at_call 60; (with_reducible refine (FI.out _ B2.out).mono ?_); rintro e w3 ⟨rfl, hB3⟩; have B3 := Lib.hid (Below.next B2.out hB3); have K3 := Lib.hid (K2.out.later hB3 K2.out.1); clear hB3 s0 s1 s2 s3 s4 s5 s6 s7 s8 s9 s10 s11 s12 s13 s14 s15 s16 s17 s18 r0 r1 r2 r3 r4 r5 r6 r7 r8 r9 r10 r11 r12 r13 r14 FI; obtain ⟨s0, s1, s2, s3, s4, s5, s6, s7, s8, s9, s10, s11, s12, s13, s14, s15, s16, s17, s18⟩ := K3.out.nineteen; have z3 := K3.out.1)
   | (go_at_call 60; (with_reducible refine (FO.out _ B3.out).mono ?_); rintro e w4 ⟨rfl, hB4⟩; replace hB4 := Lib.hid (Below.next B3.out hB4)))
  go_ret
  exact ⟨rfl, hB4.out⟩
end Go.Proofs.YtkbohijlhhpfbaaGreatDoor.Rs
