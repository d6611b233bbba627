import Derived.Test.YtkbohijlhhpfbaaGreatDoorVYi
import Derived.Test.YtkbohijlhhpfbaaGreatDoorVYk
import Derived.Test.YtkbohijlhhpfbaaGreatDoorVYl
/- The walk through rset's Check: too many dates (printed by gen_set.py). -/
namespace Go.Proofs.YtkbohijlhhpfbaaGreatDoor.Rs
open Go.RowKit Ru Ut Cw Ra Xp
set_option maxHeartbeats 8000000 in
set_option maxRecDepth 100000 in
theorem check_many (w : World) (s : St) (sv : Nat → Value) (vi vo : Value) (hL : LS w s sv vi vo) (hW : WS s) (h1 : Mo.chk s.kind s.sec = 0) (h2 : chkR s.rule = 0) (h3 : ¬ (s.rule.uk ≠ 0 ∧ s.rule.uk ≠ s.kind)) (h4 : ¬ (timed s.rule ∧ s.kind = 1)) (h5 : 12 < s.inn.length ∨ 12 < s.out.length) :
  Calls Tryz.prog 26 #[setV s sv vi vo] w fun e w' => e = .returned (.int .i64 20) ∧ Below w.heap.size w w' := by
 have FM := fun W => Ma.check_any s.kind s.sec hW.2.1 W
 have FR : ∀ W, Below w.heap.size w W → Calls Tryz.prog 33 #[ruleV s.rule sv] W fun e w' => e = .returned (.int .i64 (chkR s.rule)) ∧ Below W.heap.size W w' := fun W hB => rcheck_any W s.rule sv (hL.1.later hB) hW.1
 have FI : ∀ W, Below w.heap.size w W → Calls Tryz.prog 58 #[vi, .int .u8 s.kind] W fun e w' => e = .returned (.int .i64 (alike s.kind s.inn)) ∧ Below W.heap.size W w' := fun W hB => alike_any s.kind (hL.2.1.below hB) hW.2.2.1 (by have := hW.2.2.2.2.1; omega)
 have FO : ∀ W, Below w.heap.size w W → Calls Tryz.prog 58 #[vo, .int .u8 s.kind] W fun e w' => e = .returned (.int .i64 (alike s.kind s.out)) ∧ Below W.heap.size W w' := fun W hB => alike_any s.kind (hL.2.2.below hB) hW.2.2.2.1 (by have := hW.2.2.2.2.2; omega)
 have BX := fun W => @sbox w s sv vi vo 48 W
 obtain ⟨a4, g4, e4⟩ := ints_slice (hL.1.1 4 (by decide) (by decide) (by decide))
 obtain ⟨a5, g5, e5⟩ := ints_slice (hL.1.1 5 (by decide) (by decide) (by decide))
 obtain ⟨a6, g6, e6⟩ := ints_slice (hL.1.1 6 (by decide) (by decide) (by decide))
 obtain ⟨a17, g17, e17⟩ := hL.2.1.slice
 obtain ⟨a18, g18, e18⟩ := hL.2.2.slice
 change sv 4 = .slice a4 s.rule.sec.length g4 at e4
 change sv 5 = .slice a5 s.rule.min.length g5 at e5
 change sv 6 = .slice a6 s.rule.hour.length g6 at e6
 unfold setV
 unfold setC ruleV ruleC Ma.val at *
 rw [e4, e5, e6] at FR BX ⊢
 rw [e17] at FI BX ⊢
 rw [e18] at FO BX ⊢
 rw [h1] at FM
 rw [h2] at FR
 have hm : (12 : Int) < max (s.inn.length : Int) (s.out.length : Int) := by omega
 clear h5
 have hu : (s.rule.uk != 0) = false ∨ ((s.rule.uk != 0) = true ∧ (s.rule.uk != s.kind) = false) := by
  by_cases h : s.rule.uk = 0
  ·exact .inl (by simp [h])
  ·exact .inr ⟨by simp [h], by simp; exact Decidable.byContradiction fun hh => h3 ⟨h, hh⟩⟩
 have ht : (s.rule.freq < 3 ∧ (s.kind == 1) = false) ∨ (3 ≤ s.rule.freq ∧ 0 < s.rule.hour.length ∧ (s.kind == 1) = false) ∨ (3 ≤ s.rule.freq ∧ ¬ 0 < s.rule.hour.length ∧ 0 < s.rule.min.length ∧ (s.kind == 1) = false) ∨ (3 ≤ s.rule.freq ∧ ¬ 0 < s.rule.hour.length ∧ ¬ 0 < s.rule.min.length ∧ 0 < s.rule.sec.length ∧ (s.kind == 1) = false) ∨
   (3 ≤ s.rule.freq ∧ ¬ 0 < s.rule.hour.length ∧ ¬ 0 < s.rule.min.length ∧ ¬ 0 < s.rule.sec.length) := by
  rw [beq_eq_false_iff_ne]
  unfold timed at h4
  omega
 clear h1 h2 h3 h4
 replace FM := Lib.hid FM
 replace FR := Lib.hid FR
 replace FI := Lib.hid FI
 replace FO := Lib.hid FO
 replace BX := Lib.hid BX
 clear hL hW e4 e5 e6 e17 e18
 generalize s.rule.hour.length = n6 at *
 generalize s.rule.min.length = n5 at *
 generalize s.rule.sec.length = n4 at *
 rcases hu with hu | ⟨hu, hu2⟩
 all_goals
  rcases ht with ⟨ht, hk⟩ | ⟨ht, ht1, hk⟩ | ⟨ht, ht1, ht2, hk⟩ | ⟨ht, ht1, ht2, ht3, hk⟩ | ⟨ht, ht1, ht2, ht3⟩
 all_goals
  as_aux_lemma =>
  go_enter Tryz.func26, Tryz.ntmps26
  go_wp2_with (first
   | (go_at_call 57; (with_reducible refine (FM.out _).mono ?_); rintro e w1 ⟨rfl, hB1⟩; replace hB1 := Lib.hid hB1; obtain ⟨z0, c0, c1, c2, c3, c4, c5, c6, c7, c8, c9, c10, c11, c12, c13, c14, c15, c16, c17, c18⟩ := BX.out w1 hB1.out)
   | (go_at_call 33; (with_reducible refine (FR.out _ (Below.next_allocs' hB1.out)).mono ?_); rintro e w2 ⟨rfl, hB2⟩; replace hB2 := Lib.hid (Below.next hB1.out hB2); clear z0 c0 c1 c2 c3 c4 c5 c6 c7 c8 c9 c10 c11 c12 c13 c14 c15 c16 c17 c18; obtain ⟨z0, c0, c1, c2, c3, c4, c5, c6, c7, c8, c9, c10, c11, c12, c13, c14, c15, c16, c17, c18⟩ := BX.out w2 hB2.out))
  go_ret
  exact ⟨rfl, Below.next_allocs' hB2.out⟩
end Go.Proofs.YtkbohijlhhpfbaaGreatDoor.Rs
/- The walk through rset's Check: whole (printed by gen_set.py). -/
namespace Go.Proofs.YtkbohijlhhpfbaaGreatDoor.Rs
open Go.RowKit Ru Ut Cw Ra Xp
theorem checkS_any (w : World) (s : St) (sv : Nat → Value) (vi vo : Value) (hL : LS w s sv vi vo) (hW : WS s) : Calls Tryz.prog 26 #[setV s sv vi vo] w fun e w' => e = .returned (.int .i64 (chkS s)) ∧ Below w.heap.size w w' := by
 by_cases h : Mo.chk s.kind s.sec ≠ 0 ∨ chkR s.rule ≠ 0 ∨ (s.rule.uk ≠ 0 ∧ s.rule.uk ≠ s.kind) ∨ (timed s.rule ∧ s.kind = 1)
 ·exact check_head w s sv vi vo hL hW h
 ·have h1 : ¬ Mo.chk s.kind s.sec ≠ 0 := fun hh => h (.inl hh)
  have h2 : ¬ chkR s.rule ≠ 0 := fun hh => h (.inr (.inl hh))
  have h3 : ¬ (s.rule.uk ≠ 0 ∧ s.rule.uk ≠ s.kind) := fun hh => h (.inr (.inr (.inl hh)))
  have h4 : ¬ (timed s.rule ∧ s.kind = 1) := fun hh => h (.inr (.inr (.inr hh)))
  unfold chkS
  rw [if_neg h1, if_neg h2, if_neg h3, if_neg h4]
  have h1' := Decidable.byContradiction h1
  have h2' := Decidable.byContradiction h2
  by_cases h5 : 12 < s.inn.length ∨ 12 < s.out.length
  ·rw [if_pos h5]; exact check_many w s sv vi vo hL hW h1' h2' h3 h4 h5
  ·rw [if_neg h5]
   by_cases h6 : alike s.kind s.inn ≠ 0
   ·rw [if_pos h6]; exact check_inn w s sv vi vo hL hW h1' h2' h3 h4 h5 h6
   ·rw [if_neg h6]; exact check_out w s sv vi vo hL hW h1' h2' h3 h4 h5 (Decidable.byContradiction h6)
end Go.Proofs.YtkbohijlhhpfbaaGreatDoor.Rs
