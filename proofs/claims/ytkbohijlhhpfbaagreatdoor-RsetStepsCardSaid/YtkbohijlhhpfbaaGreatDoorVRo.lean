import Derived.Test.YtkbohijlhhpfbaaGreatDoorVRm
import Derived.Test.YtkbohijlhhpfbaaGreatDoorVRn
import Derived.Test.YtkbohijlhhpfbaaGreatDoorVRj
import Derived.Test.YtkbohijlhhpfbaaGreatDoorVYa
import Derived.Test.YtkbohijlhhpfbaaGreatDoorVPr
/- The walks through errandref23's is, both and Nth. -/
namespace Go.Proofs.YtkbohijlhhpfbaaGreatDoor.Da
open Go.RowKit Ru Ut Cw Ra
theorem ris_any (n : Int) (w : World) : Calls Tryz.prog 186 #[.int .i64 n] w fun e w' => e = .returned (.bool (Civ.isDay n)) ∧ w = w' := by
 by_cases h0 : 0 ≤ n
 ·by_cases h1 : n ≤ 3652058
  ·have hr := Lib.hid (show Civ.isDay n = true from (Civ.isDay_iff n).2 ⟨h0, h1⟩)
   go_enter Tryz.func186, Tryz.ntmps186
   go_wp2
   go_ret
   exact ⟨ret_b hr.out.symm, rfl⟩
  ·have hr := Lib.hid (show Civ.isDay n = false by rw [← Bool.not_eq_true, Civ.isDay_iff]; omega)
   go_enter Tryz.func186, Tryz.ntmps186
   go_wp2
   go_ret
   exact ⟨ret_b hr.out.symm, rfl⟩
 ·have hr := Lib.hid (show Civ.isDay n = false by rw [← Bool.not_eq_true, Civ.isDay_iff]; omega)
  go_enter Tryz.func186, Tryz.ntmps186
  go_wp2
  go_ret
  exact ⟨ret_b hr.out.symm, rfl⟩
def both (l : List Int) (n size : Int) : Bool := decide (n ∈ l) || decide (n - size - 1 ∈ l)
theorem both_any {w : World} {v : Value} {l : List Int} (n size : Int) (hl : Ints w v l) (hn : l.length ≤ 1000) (n0 : 0 ≤ n) (n1 : n ≤ 1000) (s0 : 0 ≤ size) (s1 : size ≤ 1000) : Calls Tryz.prog 162 #[v, .int .i64 n, .int .i64 size] w fun e w' => e = .returned (.bool (both l n size)) ∧ w = w' := by
 have F1 := rHas_any n hl (by omega)
 have F2 := rHas_any (n - size - 1) hl (by omega)
 obtain ⟨p, c, rfl⟩ := hl.slice
 clear hl
 by_cases ha : n ∈ l
 ·have hr := Lib.hid (show both l n size = true by unfold both; rw [decide_eq_true ha]; rfl)
  rw [decide_eq_true ha] at F1
  replace F1 := Lib.hid F1
  clear F2 ha
  go_enter Tryz.func162, Tryz.ntmps162
  go_wp2_with (first | (go_at_call 44; (with_reducible refine F1.out.mono ?_); rintro e w' ⟨rfl, rfl⟩))
  go_ret
  exact ⟨ret_b hr.out.symm, rfl⟩
 ·have hr := Lib.hid (show both l n size = decide (n - size - 1 ∈ l) by unfold both; rw [decide_eq_false ha]; rfl)
  rw [decide_eq_false ha] at F1
  replace F1 := Lib.hid F1
  replace F2 := Lib.hid F2
  clear ha
  go_enter Tryz.func162, Tryz.ntmps162
  go_wp2_with (first | (go_at_call 44; (with_reducible refine F1.out.mono ?_); rintro e w' ⟨rfl, rfl⟩; clear F1) | (go_at_call 44; (with_reducible refine F2.out.mono ?_); rintro e w' ⟨rfl, rfl⟩))
  go_ret
  exact ⟨ret_b hr.out.symm, rfl⟩
theorem about_at {n : Int} (h : Civ.isDay n = true) : Dy.about n = ⟨n, Civ.dateM n, Civ.dateD n, Civ.weekday n, Civ.len (Civ.dateY n) (Civ.dateM n), Civ.days (Civ.dateY n), Civ.place n, Dy.which (Civ.dateD n - 1), -Dy.which (Civ.len (Civ.dateY n) (Civ.dateM n) - Civ.dateD n), Dy.which (Civ.place n - 1), -Dy.which (Civ.days (Civ.dateY n) - Civ.place n)⟩ := by
 unfold Dy.about; rw [if_pos h]
theorem about_not {n : Int} (h : Civ.isDay n = false) : Dy.about n = ⟨0, 0, 0, 0, 0, 0, 0, 0, 0, 0, 0⟩ := by
 unfold Dy.about; rw [if_neg (by rw [h]; decide)]
def nthV (f : Dy.F) : Value := .agg #[.int .i64 f.n0, .int .i64 f.n1, .int .i64 f.n2, .int .i64 f.n3]
set_option maxHeartbeats 2000000 in
theorem rNth_any (n : Int) (w : World) : Calls Tryz.prog 181 #[.int .i64 n] w fun e w' => e = .returned (nthV (Dy.about n)) ∧ Below w.heap.size w w' := by
 unfold nthV
 have FI := ris_any n
 cases h : Civ.isDay n
 ·rw [about_not h]
  rw [h] at FI
  replace FI := Lib.hid FI
  clear h
  go_enter Tryz.func181, Tryz.ntmps181
  go_wp2_with (first | (go_at_call 186; (with_reducible refine (FI.out _).mono ?_); rintro e w' ⟨rfl, rfl⟩))
  exact bodyPost_ret (v := .agg #[.int .i64 0, .int .i64 0, .int .i64 0, .int .i64 0]) (by simp [results, Tryz.results181, go_sem]) rfl ⟨rfl, by (repeat' (first|assumption|exact Below.refl _ _|apply Below.next_alloc|apply Below.drew|(apply Below.next;rotate_left;assumption)))⟩
 ·have hb := Dy.about_bd n
  have hi := Dy.about_in h
  rw [about_at h] at hb hi ⊢
  rw [h] at FI
  have FD := Lib.hid (rDate_any n)
  have FP := Lib.hid (rPlace_any n)
  have FL := Lib.hid (rLen_any (Civ.dateY n) (Civ.dateM n))
  have FY := Lib.hid (rDays_any (Civ.dateY n))
  replace FI := Lib.hid FI
  clear h
  simp only at hb hi ⊢
  unfold Dy.which
  generalize Civ.dateY n = y at *
  generalize Civ.dateM n = m at *
  generalize Civ.dateD n = d at *
  generalize Civ.len y m = L at *
  generalize Civ.days y = Y at *
  generalize Civ.place n = p at *
  obtain ⟨-, -, m0, m1, d0, d1, -, -, L0, L1, Y0, Y1, p0, p1⟩ := hb
  obtain ⟨i1, i2, i3, i4⟩ := hi
  go_enter Tryz.func181, Tryz.ntmps181
  go_wp2_with (first
   | (go_at_call 186; (with_reducible refine (FI.out _).mono ?_); rintro e w' ⟨rfl, rfl⟩)
   | (go_at_call 114; (with_reducible refine (FD.out _).mono ?_); rintro e w' ⟨rfl, rfl⟩)
   | (go_at_call 163; (with_reducible refine (FP.out _).mono ?_); rintro e w' ⟨rfl, rfl⟩)
   | (go_at_call 82; (with_reducible refine (FL.out _).mono ?_); rintro e w' ⟨rfl, rfl⟩)
   | (go_at_call 83; (with_reducible refine (FY.out _).mono ?_); rintro e w' ⟨rfl, rfl⟩))
  exact bodyPost_ret (v := .agg #[.int .i64 ((d - 1) / 7 + 1), .int .i64 (-((L - d) / 7 + 1)), .int .i64 ((p - 1) / 7 + 1), .int .i64 (-((Y - p) / 7 + 1))]) (by simp [results, Tryz.results181, go_sem]) rfl ⟨rfl, by (repeat' (first|assumption|exact Below.refl _ _|apply Below.next_alloc|apply Below.drew|(apply Below.next;rotate_left;assumption)))⟩
end Go.Proofs.YtkbohijlhhpfbaaGreatDoor.Da
/- The walk through errandref23's weekday (printed by gen_week.py). -/
namespace Go.Proofs.YtkbohijlhhpfbaaGreatDoor.Da
open Go.RowKit Ru Ut Cw Ra
theorem hit_no1 {f : Dy.F} {a b p q : Int} (h : ¬ q = f.weekday) : Dy.hit f (a, b) (p, q) = false := by unfold Dy.hit; rw [decide_eq_false h]; rfl
theorem hit_no2 {f : Dy.F} {a b p q : Int} (h1 : ¬ p = 0) (h2 : ¬ p = a) (h3 : ¬ p = b) : Dy.hit f (a, b) (p, q) = false := by unfold Dy.hit; rw [decide_eq_false h1, decide_eq_false h2, decide_eq_false h3]; simp
theorem hit_yes {f : Dy.F} {a b p q : Int} (h : q = f.weekday) (h2 : p = 0 ∨ p = a ∨ p = b) : Dy.hit f (a, b) (p, q) = true := by
 unfold Dy.hit; rw [decide_eq_true h, Bool.true_and, Bool.or_eq_true, Bool.or_eq_true, decide_eq_true_iff, decide_eq_true_iff, decide_eq_true_iff]; exact h2
theorem nth4 (W : World) (t : TypeId) (a b c d : Value) : (W.alloc (.cells #[a, b, c, d] t)).cell? ⟨W.heap.size, 0, none⟩ = some a ∧ (W.alloc (.cells #[a, b, c, d] t)).cell? ⟨W.heap.size, 1, none⟩ = some b ∧ (W.alloc (.cells #[a, b, c, d] t)).cell? ⟨W.heap.size, 2, none⟩ = some c ∧ (W.alloc (.cells #[a, b, c, d] t)).cell? ⟨W.heap.size, 3, none⟩ = some d :=
 ⟨World.cell?_alloc_new W #[a, b, c, d] t 0, World.cell?_alloc_new W #[a, b, c, d] t 1, World.cell?_alloc_new W #[a, b, c, d] t 2, World.cell?_alloc_new W #[a, b, c, d] t 3⟩
theorem size1' {w W : World} {o : Obj} (h : Below (w.alloc o).heap.size (w.alloc o) W) : w.heap.size < W.heap.size := by
 have := h.size; rw [World.size_alloc] at this; omega
set_option maxHeartbeats 8000000 in
set_option maxRecDepth 100000 in
theorem weekday_a (w : World) (r : R) (sv : Nat → Value) (n : Int) (f : Dy.F) (hf : Dy.about n = f) (hd : Civ.isDay n = true) (hL : Lists w r sv) (hn : Short r) (q5 : (r.freq == 5) = true) : Calls Tryz.prog 164 #[ruleV r sv, .int .i64 n] w fun e w' => e = .returned (.bool (r.day.any (Dy.hit f (f.n0, f.n1)))) ∧ Below w.heap.size w w' := by
 have FN := rNth_any n
 have FW := rWeekday_any n
 rw [hf] at FN
 have hwd : Civ.weekday n = f.weekday := by rw [← hf, about_at hd]
 rw [hwd] at FW
 unfold nthV at FN
 replace FN := Lib.hid FN
 replace FW := Lib.hid FW
 clear hwd hd hf
 have n7 := hn.2
 have n11 : r.month.length ≤ 1000 := hn.1 11 (by decide) (by decide) (by decide)
 have hD := hL.2
 obtain ⟨a7, k7, e7⟩ := hL.2.slice
 obtain ⟨a11, k11, e11⟩ := (hL.1 11 (by decide) (by decide) (by decide)).slice
 change sv 11 = .slice a11 r.month.length k11 at e11
 have RB := RAt.box w r sv 27
 rw [e7] at hD
 unfold ruleV ruleC at *
 rw [e7, e11] at RB ⊢
 replace e7 := Lib.hid e7
 replace e11 := Lib.hid e11
 replace RB := Lib.hid RB
 generalize hl : r.day = l at *
 clear hL hn
 rcases hD with ⟨rfl, a', cap, hv, ha⟩ | ⟨h0, blk, o, cap, hv, hlt, hcap, hcell⟩
 ·obtain ⟨rfl, -, rfl⟩ : a7 = a' ∧ True ∧ k7 = cap := by simpa using hv
  clear hv ha hl
  simp only [List.length_nil] at *
  go_enter Tryz.func164, Tryz.ntmps164
  go_wp2_with (first | (go_at_call 181; (with_reducible refine (FN.out _).mono ?_); rintro e w1 ⟨rfl, hB1⟩; have z1 := size1' hB1; have c8 := ((RB.out.later hB1).2.2.2.2.2.2.2 7 (by decide) (by decide)).trans (by rw [e7.out])))
  refine wp_loop_rounds 1 ?_
  rw [rounds_succ]
  go_wp2
  go_ret
  exact ⟨rfl, Below.next_alloc (Below.next_allocs' hB1) _⟩
 ·obtain ⟨rfl, -, rfl⟩ : a7 = some ⟨blk, o, none⟩ ∧ True ∧ k7 = cap := by simpa using hv
  have HC := Lib.hid hcell
  replace hl := Lib.hid hl
  clear hcell hv
  go_enter Tryz.func164, Tryz.ntmps164
  go_wp2_with (first | (go_at_call 181; (with_reducible refine (FN.out _).mono ?_); rintro e w1 ⟨rfl, hB1⟩))
  have z1 := size1' hB1
  have b1 := Lib.hid (Below.next_allocs' hB1)
  replace RB := Lib.hid ((RB.out.later hB1).later (Below.next_alloc (Below.refl _ _) (.cells #[.int .i64 f.n0, .int .i64 f.n1, .int .i64 f.n2, .int .i64 f.n3] 147)))
  have N4 := Lib.hid (nth4 w1 147 (.int .i64 f.n0) (.int .i64 f.n1) (.int .i64 f.n2) (.int .i64 f.n3))
  have z2 := World.size_alloc w1 (.cells #[.int .i64 f.n0, .int .i64 f.n1, .int .i64 f.n2, .int .i64 f.n3] 147)
  have b2 := Lib.hid (Below.next_alloc b1.out (.cells #[.int .i64 f.n0, .int .i64 f.n1, .int .i64 f.n2, .int .i64 f.n3] 147))
  clear hB1
  generalize w1.alloc _ = W0 at *
  go_loopw [6] (fun i wr => ∃ k : Nat, k ≤ l.length ∧ i = .int .i64 k ∧ Hid ((l.take k).any (Dy.hit f (f.n0, f.n1)) = false) ∧ Hid (Below W0.heap.size W0 wr)) (fun i _ => l.length - (intOf i).toNat)
  case atStart => exact ⟨0, by omega, rfl, Lib.hid (by simp), Lib.hid (Below.refl _ _)⟩
  case round =>
   obtain ⟨k, k1, rfl, hx, hB⟩ := hrel
   have RR := RB.out.later hB.out
   have c0 := RR.2.1
   have c8 := (RR.2.2.2.2.2.2.2 7 (by decide) (by decide)).trans (by rw [e7.out])
   have c12 := (RR.2.2.2.2.2.2.2 11 (by decide) (by decide)).trans (by rw [e11.out])
   have q0 := (hB.out.cell (p := ⟨w1.heap.size, 0, none⟩) (by simp only; omega)).trans N4.out.1
   have q1 := (hB.out.cell (p := ⟨w1.heap.size, 1, none⟩) (by simp only; omega)).trans N4.out.2.1
   have q2 := (hB.out.cell (p := ⟨w1.heap.size, 2, none⟩) (by simp only; omega)).trans N4.out.2.2.1
   have q3 := (hB.out.cell (p := ⟨w1.heap.size, 3, none⟩) (by simp only; omega)).trans N4.out.2.2.2
   have y1 : w.heap.size < wr.heap.size := RR.1
   have y2 : w1.heap.size < wr.heap.size := by have := hB.out.size; omega
   clear RR
   by_cases hk : k < l.length
   ·obtain ⟨d1, d2⟩ := days_cells hlt HC.out (Below.next b2.out hB.out) k hk
    have i2 : (k : Int) < (l.length : Int) := by omega
    have i3 : (0 : Int) ≤ (k : Int) := by omega
    obtain ⟨m, hm⟩ : ∃ m, l[k] = m := ⟨_, rfl⟩
    rw [hm] at d1 d2
    have hany := Lib.hid (show Dy.hit f (f.n0, f.n1) m = true → l.any (Dy.hit f (f.n0, f.n1)) = true from fun h => any_of hk (by rw [hm]; exact h))
    have hnext := Lib.hid (show Dy.hit f (f.n0, f.n1) m = false → (l.take (k + 1)).any (Dy.hit f (f.n0, f.n1)) = false from fun h => by rw [any_take hk, hx.out, hm, h]; rfl)
    clear hm hx
    obtain ⟨p, q⟩ := m
    simp only at d1 d2
    by_cases g1 : q = f.weekday
    ·have t1 : (q != f.weekday) = false := by simp [g1]
     by_cases g2 : p = 0
     ·have t2 : (p == 0) = true := by simp [g2]
      have hr := Lib.hid (hany.out (hit_yes g1 (.inl g2)))
      clear g1 g2
      go_wp2
      go_quiet ((first | (go_at_call 182; with_reducible exact Base.qsame (FW.out _))))
      go_wp2
      go_ret
      exact ⟨ret_b hr.out.symm, Below.next b2.out (Base.below_drewN (Below.next_alloc hB.out _) _)⟩
     ·have t2 : (p == 0) = false := by simp [g2]
      by_cases g3 : p = f.n0
      ·have t3 : (p == f.n0) = true := by simp [g3]
       have hr := Lib.hid (hany.out (hit_yes g1 (.inr (.inl g3))))
       clear g1 g2 g3
       go_wp2
       go_quiet ((first | (go_at_call 182; with_reducible exact Base.qsame (FW.out _))))
       go_wp2
       go_ret
       exact ⟨ret_b hr.out.symm, Below.next b2.out (Base.below_drewN (Below.next_alloc hB.out _) _)⟩
      ·have t3 : (p == f.n0) = false := by simp [g3]
       by_cases g4 : p = f.n1
       ·have t4 : (p == f.n1) = true := by simp [g4]
        have hr := Lib.hid (hany.out (hit_yes g1 (.inr (.inr g4))))
        clear g1 g2 g3 g4
        go_wp2
        go_quiet ((first | (go_at_call 182; with_reducible exact Base.qsame (FW.out _))))
        go_wp2
        go_ret
        exact ⟨ret_b hr.out.symm, Below.next b2.out (Base.below_drewN (Below.next_alloc hB.out _) _)⟩
       ·have t4 : (p == f.n1) = false := by simp [g4]
        have hx2 := Lib.hid (hnext.out (hit_no2 g2 g3 g4))
        clear g1 g2 g3 g4
        go_wp2
        go_quiet ((first | (go_at_call 182; with_reducible exact Base.qsame (FW.out _))))
        go_wp2
        go_roundw
        case rel => exact ⟨k + 1, by omega, by go_num, hx2, Lib.hid (Base.below_drewN (Below.next_alloc hB.out _) _)⟩
        case measure => simp [intOf]; omega
    ·have t1 : (q != f.weekday) = true := by simp [g1]
     have hx2 := Lib.hid (hnext.out (hit_no1 g1))
     clear g1
     go_wp2
     go_quiet ((first | (go_at_call 182; with_reducible exact Base.qsame (FW.out _))))
     go_wp2
     go_roundw
     case rel => exact ⟨k + 1, by omega, by go_num, hx2, Lib.hid (Base.below_drewN (Below.next_alloc hB.out _) _)⟩
     case measure => simp [intOf]; omega
   ·have hr := Lib.hid (show l.any (Dy.hit f (f.n0, f.n1)) = false by have := hx.out; rwa [List.take_of_length_le (by omega)] at this)
    go_wp2
    go_ret
    exact ⟨ret_b hr.out.symm, Below.next b2.out hB.out⟩
set_option maxHeartbeats 8000000 in
set_option maxRecDepth 100000 in
theorem weekday_b (w : World) (r : R) (sv : Nat → Value) (n : Int) (f : Dy.F) (hf : Dy.about n = f) (hd : Civ.isDay n = true) (hL : Lists w r sv) (hn : Short r) (q5 : (r.freq == 5) = false) (hm : 0 < (r.month.length : Int)) : Calls Tryz.prog 164 #[ruleV r sv, .int .i64 n] w fun e w' => e = .returned (.bool (r.day.any (Dy.hit f (f.n0, f.n1)))) ∧ Below w.heap.size w w' := by
 have FN := rNth_any n
 have FW := rWeekday_any n
 rw [hf] at FN
 have hwd : Civ.weekday n = f.weekday := by rw [← hf, about_at hd]
 rw [hwd] at FW
 unfold nthV at FN
 replace FN := Lib.hid FN
 replace FW := Lib.hid FW
 clear hwd hd hf
 have n7 := hn.2
 have n11 : r.month.length ≤ 1000 := hn.1 11 (by decide) (by decide) (by decide)
 have hD := hL.2
 obtain ⟨a7, k7, e7⟩ := hL.2.slice
 obtain ⟨a11, k11, e11⟩ := (hL.1 11 (by decide) (by decide) (by decide)).slice
 change sv 11 = .slice a11 r.month.length k11 at e11
 have RB := RAt.box w r sv 27
 rw [e7] at hD
 unfold ruleV ruleC at *
 rw [e7, e11] at RB ⊢
 replace e7 := Lib.hid e7
 replace e11 := Lib.hid e11
 replace RB := Lib.hid RB
 generalize hl : r.day = l at *
 clear hL hn
 rcases hD with ⟨rfl, a', cap, hv, ha⟩ | ⟨h0, blk, o, cap, hv, hlt, hcap, hcell⟩
 ·obtain ⟨rfl, -, rfl⟩ : a7 = a' ∧ True ∧ k7 = cap := by simpa using hv
  clear hv ha hl
  simp only [List.length_nil] at *
  go_enter Tryz.func164, Tryz.ntmps164
  go_wp2_with (first | (go_at_call 181; (with_reducible refine (FN.out _).mono ?_); rintro e w1 ⟨rfl, hB1⟩; have z1 := size1' hB1; have c8 := ((RB.out.later hB1).2.2.2.2.2.2.2 7 (by decide) (by decide)).trans (by rw [e7.out])))
  refine wp_loop_rounds 1 ?_
  rw [rounds_succ]
  go_wp2
  go_ret
  exact ⟨rfl, Below.next_alloc (Below.next_allocs' hB1) _⟩
 ·obtain ⟨rfl, -, rfl⟩ : a7 = some ⟨blk, o, none⟩ ∧ True ∧ k7 = cap := by simpa using hv
  have HC := Lib.hid hcell
  replace hl := Lib.hid hl
  clear hcell hv
  go_enter Tryz.func164, Tryz.ntmps164
  go_wp2_with (first | (go_at_call 181; (with_reducible refine (FN.out _).mono ?_); rintro e w1 ⟨rfl, hB1⟩))
  have z1 := size1' hB1
  have b1 := Lib.hid (Below.next_allocs' hB1)
  replace RB := Lib.hid ((RB.out.later hB1).later (Below.next_alloc (Below.refl _ _) (.cells #[.int .i64 f.n0, .int .i64 f.n1, .int .i64 f.n2, .int .i64 f.n3] 147)))
  have N4 := Lib.hid (nth4 w1 147 (.int .i64 f.n0) (.int .i64 f.n1) (.int .i64 f.n2) (.int .i64 f.n3))
  have z2 := World.size_alloc w1 (.cells #[.int .i64 f.n0, .int .i64 f.n1, .int .i64 f.n2, .int .i64 f.n3] 147)
  have b2 := Lib.hid (Below.next_alloc b1.out (.cells #[.int .i64 f.n0, .int .i64 f.n1, .int .i64 f.n2, .int .i64 f.n3] 147))
  clear hB1
  generalize w1.alloc _ = W0 at *
  go_loopw [6] (fun i wr => ∃ k : Nat, k ≤ l.length ∧ i = .int .i64 k ∧ Hid ((l.take k).any (Dy.hit f (f.n0, f.n1)) = false) ∧ Hid (Below W0.heap.size W0 wr)) (fun i _ => l.length - (intOf i).toNat)
  case atStart => exact ⟨0, by omega, rfl, Lib.hid (by simp), Lib.hid (Below.refl _ _)⟩
  case round =>
   obtain ⟨k, k1, rfl, hx, hB⟩ := hrel
   have RR := RB.out.later hB.out
   have c0 := RR.2.1
   have c8 := (RR.2.2.2.2.2.2.2 7 (by decide) (by decide)).trans (by rw [e7.out])
   have c12 := (RR.2.2.2.2.2.2.2 11 (by decide) (by decide)).trans (by rw [e11.out])
   have q0 := (hB.out.cell (p := ⟨w1.heap.size, 0, none⟩) (by simp only; omega)).trans N4.out.1
   have q1 := (hB.out.cell (p := ⟨w1.heap.size, 1, none⟩) (by simp only; omega)).trans N4.out.2.1
   have q2 := (hB.out.cell (p := ⟨w1.heap.size, 2, none⟩) (by simp only; omega)).trans N4.out.2.2.1
   have q3 := (hB.out.cell (p := ⟨w1.heap.size, 3, none⟩) (by simp only; omega)).trans N4.out.2.2.2
   have y1 : w.heap.size < wr.heap.size := RR.1
   have y2 : w1.heap.size < wr.heap.size := by have := hB.out.size; omega
   clear RR
   by_cases hk : k < l.length
   ·obtain ⟨d1, d2⟩ := days_cells hlt HC.out (Below.next b2.out hB.out) k hk
    have i2 : (k : Int) < (l.length : Int) := by omega
    have i3 : (0 : Int) ≤ (k : Int) := by omega
    obtain ⟨m, hm⟩ : ∃ m, l[k] = m := ⟨_, rfl⟩
    rw [hm] at d1 d2
    have hany := Lib.hid (show Dy.hit f (f.n0, f.n1) m = true → l.any (Dy.hit f (f.n0, f.n1)) = true from fun h => any_of hk (by rw [hm]; exact h))
    have hnext := Lib.hid (show Dy.hit f (f.n0, f.n1) m = false → (l.take (k + 1)).any (Dy.hit f (f.n0, f.n1)) = false from fun h => by rw [any_take hk, hx.out, hm, h]; rfl)
    clear hm hx
    obtain ⟨p, q⟩ := m
    simp only at d1 d2
    by_cases g1 : q = f.weekday
    ·have t1 : (q != f.weekday) = false := by simp [g1]
     by_cases g2 : p = 0
     ·have t2 : (p == 0) = true := by simp [g2]
      have hr := Lib.hid (hany.out (hit_yes g1 (.inl g2)))
      clear g1 g2
      go_wp2
      go_quiet ((first | (go_at_call 182; with_reducible exact Base.qsame (FW.out _))))
      go_wp2
      go_ret
      exact ⟨ret_b hr.out.symm, Below.next b2.out (Base.below_drewN (Below.next_alloc hB.out _) _)⟩
     ·have t2 : (p == 0) = false := by simp [g2]
      by_cases g3 : p = f.n0
      ·have t3 : (p == f.n0) = true := by simp [g3]
       have hr := Lib.hid (hany.out (hit_yes g1 (.inr (.inl g3))))
       clear g1 g2 g3
       go_wp2
       go_quiet ((first | (go_at_call 182; with_reducible exact Base.qsame (FW.out _))))
       go_wp2
       go_ret
       exact ⟨ret_b hr.out.symm, Below.next b2.out (Base.below_drewN (Below.next_alloc hB.out _) _)⟩
      ·have t3 : (p == f.n0) = false := by simp [g3]
       by_cases g4 : p = f.n1
       ·have t4 : (p == f.n1) = true := by simp [g4]
        have hr := Lib.hid (hany.out (hit_yes g1 (.inr (.inr g4))))
        clear g1 g2 g3 g4
        go_wp2
        go_quiet ((first | (go_at_call 182; with_reducible exact Base.qsame (FW.out _))))
        go_wp2
        go_ret
        exact ⟨ret_b hr.out.symm, Below.next b2.out (Base.below_drewN (Below.next_alloc hB.out _) _)⟩
       ·have t4 : (p == f.n1) = false := by simp [g4]
        have hx2 := Lib.hid (hnext.out (hit_no2 g2 g3 g4))
        clear g1 g2 g3 g4
        go_wp2
        go_quiet ((first | (go_at_call 182; with_reducible exact Base.qsame (FW.out _))))
        go_wp2
        go_roundw
        case rel => exact ⟨k + 1, by omega, by go_num, hx2, Lib.hid (Base.below_drewN (Below.next_alloc hB.out _) _)⟩
        case measure => simp [intOf]; omega
    ·have t1 : (q != f.weekday) = true := by simp [g1]
     have hx2 := Lib.hid (hnext.out (hit_no1 g1))
     clear g1
     go_wp2
     go_quiet ((first | (go_at_call 182; with_reducible exact Base.qsame (FW.out _))))
     go_wp2
     go_roundw
     case rel => exact ⟨k + 1, by omega, by go_num, hx2, Lib.hid (Base.below_drewN (Below.next_alloc hB.out _) _)⟩
     case measure => simp [intOf]; omega
   ·have hr := Lib.hid (show l.any (Dy.hit f (f.n0, f.n1)) = false by have := hx.out; rwa [List.take_of_length_le (by omega)] at this)
    go_wp2
    go_ret
    exact ⟨ret_b hr.out.symm, Below.next b2.out hB.out⟩
set_option maxHeartbeats 8000000 in
set_option maxRecDepth 100000 in
theorem weekday_c (w : World) (r : R) (sv : Nat → Value) (n : Int) (f : Dy.F) (hf : Dy.about n = f) (hd : Civ.isDay n = true) (hL : Lists w r sv) (hn : Short r) (q5 : (r.freq == 5) = false) (hm : ¬ 0 < (r.month.length : Int)) : Calls Tryz.prog 164 #[ruleV r sv, .int .i64 n] w fun e w' => e = .returned (.bool (r.day.any (Dy.hit f (f.n2, f.n3)))) ∧ Below w.heap.size w w' := by
 have FN := rNth_any n
 have FW := rWeekday_any n
 rw [hf] at FN
 have hwd : Civ.weekday n = f.weekday := by rw [← hf, about_at hd]
 rw [hwd] at FW
 unfold nthV at FN
 replace FN := Lib.hid FN
 replace FW := Lib.hid FW
 clear hwd hd hf
 have n7 := hn.2
 have n11 : r.month.length ≤ 1000 := hn.1 11 (by decide) (by decide) (by decide)
 have hD := hL.2
 obtain ⟨a7, k7, e7⟩ := hL.2.slice
 obtain ⟨a11, k11, e11⟩ := (hL.1 11 (by decide) (by decide) (by decide)).slice
 change sv 11 = .slice a11 r.month.length k11 at e11
 have RB := RAt.box w r sv 27
 rw [e7] at hD
 unfold ruleV ruleC at *
 rw [e7, e11] at RB ⊢
 replace e7 := Lib.hid e7
 replace e11 := Lib.hid e11
 replace RB := Lib.hid RB
 generalize hl : r.day = l at *
 clear hL hn
 rcases hD with ⟨rfl, a', cap, hv, ha⟩ | ⟨h0, blk, o, cap, hv, hlt, hcap, hcell⟩
 ·obtain ⟨rfl, -, rfl⟩ : a7 = a' ∧ True ∧ k7 = cap := by simpa using hv
  clear hv ha hl
  simp only [List.length_nil] at *
  go_enter Tryz.func164, Tryz.ntmps164
  go_wp2_with (first | (go_at_call 181; (with_reducible refine (FN.out _).mono ?_); rintro e w1 ⟨rfl, hB1⟩; have z1 := size1' hB1; have c8 := ((RB.out.later hB1).2.2.2.2.2.2.2 7 (by decide) (by decide)).trans (by rw [e7.out])))
  refine wp_loop_rounds 1 ?_
  rw [rounds_succ]
  go_wp2
  go_ret
  exact ⟨rfl, Below.next_alloc (Below.next_allocs' hB1) _⟩
 ·obtain ⟨rfl, -, rfl⟩ : a7 = some ⟨blk, o, none⟩ ∧ True ∧ k7 = cap := by simpa using hv
  have HC := Lib.hid hcell
  replace hl := Lib.hid hl
  clear hcell hv
  go_enter Tryz.func164, Tryz.ntmps164
  go_wp2_with (first | (go_at_call 181; (with_reducible refine (FN.out _).mono ?_); rintro e w1 ⟨rfl, hB1⟩))
  have z1 := size1' hB1
  have b1 := Lib.hid (Below.next_allocs' hB1)
  replace RB := Lib.hid ((RB.out.later hB1).later (Below.next_alloc (Below.refl _ _) (.cells #[.int .i64 f.n0, .int .i64 f.n1, .int .i64 f.n2, .int .i64 f.n3] 147)))
  have N4 := Lib.hid (nth4 w1 147 (.int .i64 f.n0) (.int .i64 f.n1) (.int .i64 f.n2) (.int .i64 f.n3))
  have z2 := World.size_alloc w1 (.cells #[.int .i64 f.n0, .int .i64 f.n1, .int .i64 f.n2, .int .i64 f.n3] 147)
  have b2 := Lib.hid (Below.next_alloc b1.out (.cells #[.int .i64 f.n0, .int .i64 f.n1, .int .i64 f.n2, .int .i64 f.n3] 147))
  clear hB1
  generalize w1.alloc _ = W0 at *
  go_loopw [6] (fun i wr => ∃ k : Nat, k ≤ l.length ∧ i = .int .i64 k ∧ Hid ((l.take k).any (Dy.hit f (f.n2, f.n3)) = false) ∧ Hid (Below W0.heap.size W0 wr)) (fun i _ => l.length - (intOf i).toNat)
  case atStart => exact ⟨0, by omega, rfl, Lib.hid (by simp), Lib.hid (Below.refl _ _)⟩
  case round =>
   obtain ⟨k, k1, rfl, hx, hB⟩ := hrel
   have RR := RB.out.later hB.out
   have c0 := RR.2.1
   have c8 := (RR.2.2.2.2.2.2.2 7 (by decide) (by decide)).trans (by rw [e7.out])
   have c12 := (RR.2.2.2.2.2.2.2 11 (by decide) (by decide)).trans (by rw [e11.out])
   have q0 := (hB.out.cell (p := ⟨w1.heap.size, 0, none⟩) (by simp only; omega)).trans N4.out.1
   have q1 := (hB.out.cell (p := ⟨w1.heap.size, 1, none⟩) (by simp only; omega)).trans N4.out.2.1
   have q2 := (hB.out.cell (p := ⟨w1.heap.size, 2, none⟩) (by simp only; omega)).trans N4.out.2.2.1
   have q3 := (hB.out.cell (p := ⟨w1.heap.size, 3, none⟩) (by simp only; omega)).trans N4.out.2.2.2
   have y1 : w.heap.size < wr.heap.size := RR.1
   have y2 : w1.heap.size < wr.heap.size := by have := hB.out.size; omega
   clear RR
   by_cases hk : k < l.length
   ·obtain ⟨d1, d2⟩ := days_cells hlt HC.out (Below.next b2.out hB.out) k hk
    have i2 : (k : Int) < (l.length : Int) := by omega
    have i3 : (0 : Int) ≤ (k : Int) := by omega
    obtain ⟨m, hm⟩ : ∃ m, l[k] = m := ⟨_, rfl⟩
    rw [hm] at d1 d2
    have hany := Lib.hid (show Dy.hit f (f.n2, f.n3) m = true → l.any (Dy.hit f (f.n2, f.n3)) = true from fun h => any_of hk (by rw [hm]; exact h))
    have hnext := Lib.hid (show Dy.hit f (f.n2, f.n3) m = false → (l.take (k + 1)).any (Dy.hit f (f.n2, f.n3)) = false from fun h => by rw [any_take hk, hx.out, hm, h]; rfl)
    clear hm hx
    obtain ⟨p, q⟩ := m
    simp only at d1 d2
    by_cases g1 : q = f.weekday
    ·have t1 : (q != f.weekday) = false := by simp [g1]
     by_cases g2 : p = 0
     ·have t2 : (p == 0) = true := by simp [g2]
      have hr := Lib.hid (hany.out (hit_yes g1 (.inl g2)))
      clear g1 g2
      go_wp2
      go_quiet ((first | (go_at_call 182; with_reducible exact Base.qsame (FW.out _))))
      go_wp2
      go_ret
      exact ⟨ret_b hr.out.symm, Below.next b2.out (Base.below_drewN (Below.next_alloc hB.out _) _)⟩
     ·have t2 : (p == 0) = false := by simp [g2]
      by_cases g3 : p = f.n2
      ·have t3 : (p == f.n2) = true := by simp [g3]
       have hr := Lib.hid (hany.out (hit_yes g1 (.inr (.inl g3))))
       clear g1 g2 g3
       go_wp2
       go_quiet ((first | (go_at_call 182; with_reducible exact Base.qsame (FW.out _))))
       go_wp2
       go_ret
       exact ⟨ret_b hr.out.symm, Below.next b2.out (Base.below_drewN (Below.next_alloc hB.out _) _)⟩
      ·have t3 : (p == f.n2) = false := by simp [g3]
       by_cases g4 : p = f.n3
       ·have t4 : (p == f.n3) = true := by simp [g4]
        have hr := Lib.hid (hany.out (hit_yes g1 (.inr (.inr g4))))
        clear g1 g2 g3 g4
        go_wp2
        go_quiet ((first | (go_at_call 182; with_reducible exact Base.qsame (FW.out _))))
        go_wp2
        go_ret
        exact ⟨ret_b hr.out.symm, Below.next b2.out (Base.below_drewN (Below.next_alloc hB.out _) _)⟩
       ·have t4 : (p == f.n3) = false := by simp [g4]
        have hx2 := Lib.hid (hnext.out (hit_no2 g2 g3 g4))
        clear g1 g2 g3 g4
        go_wp2
        go_quiet ((first | (go_at_call 182; with_reducible exact Base.qsame (FW.out _))))
        go_wp2
        go_roundw
        case rel => exact ⟨k + 1, by omega, by go_num, hx2, Lib.hid (Base.below_drewN (Below.next_alloc hB.out _) _)⟩
        case measure => simp [intOf]; omega
    ·have t1 : (q != f.weekday) = true := by simp [g1]
     have hx2 := Lib.hid (hnext.out (hit_no1 g1))
     clear g1
     go_wp2
     go_quiet ((first | (go_at_call 182; with_reducible exact Base.qsame (FW.out _))))
     go_wp2
     go_roundw
     case rel => exact ⟨k + 1, by omega, by go_num, hx2, Lib.hid (Base.below_drewN (Below.next_alloc hB.out _) _)⟩
     case measure => simp [intOf]; omega
   ·have hr := Lib.hid (show l.any (Dy.hit f (f.n2, f.n3)) = false by have := hx.out; rwa [List.take_of_length_le (by omega)] at this)
    go_wp2
    go_ret
    exact ⟨ret_b hr.out.symm, Below.next b2.out hB.out⟩
theorem weekday_any (w : World) (r : R) (sv : Nat → Value) (n : Int) (hd : Civ.isDay n = true) (hL : Lists w r sv) (hn : Short r) : Calls Tryz.prog 164 #[ruleV r sv, .int .i64 n] w fun e w' => e = .returned (.bool (r.day.any (Dy.hit (Dy.about n) (Dy.ways r (Dy.about n))))) ∧ Below w.heap.size w w' := by
 by_cases h5 : r.freq = 5
 ·rw [show Dy.ways r (Dy.about n) = ((Dy.about n).n0, (Dy.about n).n1) by unfold Dy.ways; rw [if_pos (.inl h5)]]
  exact weekday_a w r sv n _ rfl hd hL hn (by simp [h5])
 ·by_cases hm : 0 < (r.month.length : Int)
  ·rw [show Dy.ways r (Dy.about n) = ((Dy.about n).n0, (Dy.about n).n1) by unfold Dy.ways; rw [if_pos (.inr (by omega))]]
   exact weekday_b w r sv n _ rfl hd hL hn (by simp [h5]) hm
  ·rw [show Dy.ways r (Dy.about n) = ((Dy.about n).n2, (Dy.about n).n3) by unfold Dy.ways; rw [if_neg (by omega)]]
   exact weekday_c w r sv n _ rfl hd hL hn (by simp [h5]) hm
end Go.Proofs.YtkbohijlhhpfbaaGreatDoor.Da
/- The walk through errandref21's Check (printed by gen_check.py), a rule without numbered weekdays. -/
namespace Go.Proofs.YtkbohijlhhpfbaaGreatDoor.Ra
open Go.RowKit Ru Ut Cw
set_option maxHeartbeats 16000000 in
set_option maxRecDepth 100000 in
theorem rcheckB_any (w : World) (r : R) (sv : Nat → Value) (hL : Lists w r sv) (hn : Short r) (hu : 0 ≤ r.uk ∧ r.uk ≤ 255) (hf : 0 ≤ r.freq) (h1 : ¬ 6 < r.freq) (h2 : ¬ (r.interval < 1 ∨ 1000 < r.interval ∨ r.count < 0 ∨ 1000 < r.count ∨ r.wkst < 0 ∨ 6 < r.wkst)) (hu0 : untilE r = 0) (hze : errs r = 0) (hN : numbered r.day = false) : Calls Tryz.prog 37 #[.agg (ruleC r sv)] w fun e w' => e = .returned (.int .i64 (chkR r)) ∧ Below w.heap.size w w' := by
 have FU := fun W => until_any W r sv hu
 obtain ⟨x4, g4⟩ : ∃ x, err r 4 = x := ⟨_, rfl⟩
 obtain ⟨x5, g5⟩ : ∃ x, err r 5 = x := ⟨_, rfl⟩
 obtain ⟨x6, g6⟩ : ∃ x, err r 6 = x := ⟨_, rfl⟩
 obtain ⟨x7, g7⟩ : ∃ x, err r 7 = x := ⟨_, rfl⟩
 obtain ⟨x8, g8⟩ : ∃ x, err r 8 = x := ⟨_, rfl⟩
 obtain ⟨x9, g9⟩ : ∃ x, err r 9 = x := ⟨_, rfl⟩
 obtain ⟨x10, g10⟩ : ∃ x, err r 10 = x := ⟨_, rfl⟩
 obtain ⟨x11, g11⟩ : ∃ x, err r 11 = x := ⟨_, rfl⟩
 obtain ⟨x12, g12⟩ : ∃ x, err r 12 = x := ⟨_, rfl⟩
 have F4 : ∀ W, Below w.heap.size w W → Calls Tryz.prog 73 #[sv 4, .int .i64 0, .int .i64 59, .bool false] W fun e w' => e = .returned (.int .i64 x4) ∧ Below W.heap.size W w' := fun W hB => by
  have := rlist_any ((hL.1 4 (by decide) (by decide) (by decide)).below hB) (hn.1 4 (by decide) (by decide) (by decide)) 0 59 false (by decide) (by decide) (by decide); rwa [show wrong (bad 0 59 false) (lst r 4) = err r 4 from rfl, g4] at this
 have F5 : ∀ W, Below w.heap.size w W → Calls Tryz.prog 73 #[sv 5, .int .i64 0, .int .i64 59, .bool false] W fun e w' => e = .returned (.int .i64 x5) ∧ Below W.heap.size W w' := fun W hB => by
  have := rlist_any ((hL.1 5 (by decide) (by decide) (by decide)).below hB) (hn.1 5 (by decide) (by decide) (by decide)) 0 59 false (by decide) (by decide) (by decide); rwa [show wrong (bad 0 59 false) (lst r 5) = err r 5 from rfl, g5] at this
 have F6 : ∀ W, Below w.heap.size w W → Calls Tryz.prog 73 #[sv 6, .int .i64 0, .int .i64 23, .bool false] W fun e w' => e = .returned (.int .i64 x6) ∧ Below W.heap.size W w' := fun W hB => by
  have := rlist_any ((hL.1 6 (by decide) (by decide) (by decide)).below hB) (hn.1 6 (by decide) (by decide) (by decide)) 0 23 false (by decide) (by decide) (by decide); rwa [show wrong (bad 0 23 false) (lst r 6) = err r 6 from rfl, g6] at this
 have F7 : ∀ W, Below w.heap.size w W → Calls Tryz.prog 74 #[sv 7] W fun e w' => e = .returned (.int .i64 x7) ∧ Below W.heap.size W w' := fun W hB => by
  have := rdays_any (hL.2.below hB) hn.2; rwa [show wrong badDay r.day = err r 7 from rfl, g7] at this
 have F8 : ∀ W, Below w.heap.size w W → Calls Tryz.prog 73 #[sv 8, .int .i64 1, .int .i64 31, .bool true] W fun e w' => e = .returned (.int .i64 x8) ∧ Below W.heap.size W w' := fun W hB => by
  have := rlist_any ((hL.1 8 (by decide) (by decide) (by decide)).below hB) (hn.1 8 (by decide) (by decide) (by decide)) 1 31 true (by decide) (by decide) (by decide); rwa [show wrong (bad 1 31 true) (lst r 8) = err r 8 from rfl, g8] at this
 have F9 : ∀ W, Below w.heap.size w W → Calls Tryz.prog 73 #[sv 9, .int .i64 1, .int .i64 366, .bool true] W fun e w' => e = .returned (.int .i64 x9) ∧ Below W.heap.size W w' := fun W hB => by
  have := rlist_any ((hL.1 9 (by decide) (by decide) (by decide)).below hB) (hn.1 9 (by decide) (by decide) (by decide)) 1 366 true (by decide) (by decide) (by decide); rwa [show wrong (bad 1 366 true) (lst r 9) = err r 9 from rfl, g9] at this
 have F10 : ∀ W, Below w.heap.size w W → Calls Tryz.prog 73 #[sv 10, .int .i64 1, .int .i64 53, .bool true] W fun e w' => e = .returned (.int .i64 x10) ∧ Below W.heap.size W w' := fun W hB => by
  have := rlist_any ((hL.1 10 (by decide) (by decide) (by decide)).below hB) (hn.1 10 (by decide) (by decide) (by decide)) 1 53 true (by decide) (by decide) (by decide); rwa [show wrong (bad 1 53 true) (lst r 10) = err r 10 from rfl, g10] at this
 have F11 : ∀ W, Below w.heap.size w W → Calls Tryz.prog 73 #[sv 11, .int .i64 1, .int .i64 12, .bool false] W fun e w' => e = .returned (.int .i64 x11) ∧ Below W.heap.size W w' := fun W hB => by
  have := rlist_any ((hL.1 11 (by decide) (by decide) (by decide)).below hB) (hn.1 11 (by decide) (by decide) (by decide)) 1 12 false (by decide) (by decide) (by decide); rwa [show wrong (bad 1 12 false) (lst r 11) = err r 11 from rfl, g11] at this
 have F12 : ∀ W, Below w.heap.size w W → Calls Tryz.prog 73 #[sv 12, .int .i64 1, .int .i64 366, .bool true] W fun e w' => e = .returned (.int .i64 x12) ∧ Below W.heap.size W w' := fun W hB => by
  have := rlist_any ((hL.1 12 (by decide) (by decide) (by decide)).below hB) (hn.1 12 (by decide) (by decide) (by decide)) 1 366 true (by decide) (by decide) (by decide); rwa [show wrong (bad 1 366 true) (lst r 12) = err r 12 from rfl, g12] at this
 have FN : ∀ W, Below w.heap.size w W → Calls Tryz.prog 75 #[sv 7] W fun e w' => e = .returned (.bool (numbered r.day)) ∧ W = w' := fun W hB => numbered_any (hL.2.below hB) (by have := hn.2; omega)
 have hE : errs r = firstNZ [x4, x5, x6, x7, x8, x9, x10, x11, x12] := by unfold errs; rw [g4, g5, g6, g7, g8, g9, g10, g11, g12]
 obtain ⟨a4, k4, e4⟩ := (hL.1 4 (by decide) (by decide) (by decide)).slice
 change sv 4 = .slice a4 r.sec.length k4 at e4
 have n4 : r.sec.length ≤ 1000 := hn.1 4 (by decide) (by decide) (by decide)
 obtain ⟨a5, k5, e5⟩ := (hL.1 5 (by decide) (by decide) (by decide)).slice
 change sv 5 = .slice a5 r.min.length k5 at e5
 have n5 : r.min.length ≤ 1000 := hn.1 5 (by decide) (by decide) (by decide)
 obtain ⟨a6, k6, e6⟩ := (hL.1 6 (by decide) (by decide) (by decide)).slice
 change sv 6 = .slice a6 r.hour.length k6 at e6
 have n6 : r.hour.length ≤ 1000 := hn.1 6 (by decide) (by decide) (by decide)
 obtain ⟨a7, k7, e7⟩ := hL.2.slice
 have n7 := hn.2
 obtain ⟨a8, k8, e8⟩ := (hL.1 8 (by decide) (by decide) (by decide)).slice
 change sv 8 = .slice a8 r.mday.length k8 at e8
 have n8 : r.mday.length ≤ 1000 := hn.1 8 (by decide) (by decide) (by decide)
 obtain ⟨a9, k9, e9⟩ := (hL.1 9 (by decide) (by decide) (by decide)).slice
 change sv 9 = .slice a9 r.yday.length k9 at e9
 have n9 : r.yday.length ≤ 1000 := hn.1 9 (by decide) (by decide) (by decide)
 obtain ⟨a10, k10, e10⟩ := (hL.1 10 (by decide) (by decide) (by decide)).slice
 change sv 10 = .slice a10 r.weekno.length k10 at e10
 have n10 : r.weekno.length ≤ 1000 := hn.1 10 (by decide) (by decide) (by decide)
 obtain ⟨a11, k11, e11⟩ := (hL.1 11 (by decide) (by decide) (by decide)).slice
 change sv 11 = .slice a11 r.month.length k11 at e11
 have n11 : r.month.length ≤ 1000 := hn.1 11 (by decide) (by decide) (by decide)
 obtain ⟨a12, k12, e12⟩ := (hL.1 12 (by decide) (by decide) (by decide)).slice
 change sv 12 = .slice a12 r.setpos.length k12 at e12
 have n12 : r.setpos.length ≤ 1000 := hn.1 12 (by decide) (by decide) (by decide)
 have RB := RAt.box w r sv 27
 unfold ruleC at *
 rw [e4] at FU F4 RB ⊢
 rw [e5] at FU F5 RB ⊢
 rw [e6] at FU F6 RB ⊢
 rw [e7] at FU F7 FN RB ⊢
 rw [e8] at FU F8 RB ⊢
 rw [e9] at FU F9 RB ⊢
 rw [e10] at FU F10 RB ⊢
 rw [e11] at FU F11 RB ⊢
 rw [e12] at FU F12 RB ⊢
 replace e4 := Lib.hid e4
 replace e5 := Lib.hid e5
 replace e6 := Lib.hid e6
 replace e7 := Lib.hid e7
 replace e8 := Lib.hid e8
 replace e9 := Lib.hid e9
 replace e10 := Lib.hid e10
 replace e11 := Lib.hid e11
 replace e12 := Lib.hid e12
 replace F4 := Lib.hid F4
 replace F5 := Lib.hid F5
 replace F6 := Lib.hid F6
 replace F7 := Lib.hid F7
 replace F8 := Lib.hid F8
 replace F9 := Lib.hid F9
 replace F10 := Lib.hid F10
 replace F11 := Lib.hid F11
 replace F12 := Lib.hid F12
 replace FN := Lib.hid FN
 replace FU := Lib.hid FU
 replace RB := Lib.hid RB
 replace hE := Lib.hid hE
 clear hL hn g4 g5 g6 g7 g8 g9 g10 g11 g12
 have hr := Lib.hid (chkR_eq h1 h2)
 obtain ⟨c0, c1, c2, c3, c4, c5⟩ : ¬ r.interval < 1 ∧ ¬ 1000 < r.interval ∧ ¬ r.count < 0 ∧ ¬ 1000 < r.count ∧ ¬ r.wkst < 0 ∧ ¬ 6 < r.wkst := by omega
 clear h2
 rw [hu0] at FU
 replace hr := Lib.hid (hr.out.trans (if_neg (by omega)))
 clear hu0
 obtain ⟨z, hz⟩ : ∃ z, firstNZ [x4, x5, x6, x7, x8, x9, x10, x11, x12] = z := ⟨_, rfl⟩
 rw [hz] at hE
 have FF := fun W t => first_nine W t x4 x5 x6 x7 x8 x9 x10 x11 x12
 rw [hz] at FF
 replace FF := Lib.hid FF
 clear hz
 rw [hE.out] at hr
 have hz : z = 0 := by rw [← hE.out]; exact hze
 clear hze
 have qz : (z != 0) = false := by simp [hz]
 subst hz
 replace hr := Lib.hid (hr.out.trans (if_neg (by omega)))
 rw [hN] at FN
 replace hN := Lib.hid hN
 go_enter Tryz.func37, Tryz.ntmps37
 go_wp2_with (first | (go_at_call 71; (with_reducible refine (FU.out _).mono ?_); rintro e w1 ⟨rfl, hB⟩))
 replace RB := Lib.hid (RB.out.later hB)
 have BW := Lib.hid (Below.next_allocs' hB)
 clear hB
 have SL : ∀ W, Below w1.heap.size w1 W → (W.cell? ⟨w.heap.size, 5, none⟩ = some (.slice a4 r.sec.length k4) ∧ W.cell? ⟨w.heap.size, 6, none⟩ = some (.slice a5 r.min.length k5) ∧ W.cell? ⟨w.heap.size, 7, none⟩ = some (.slice a6 r.hour.length k6) ∧ W.cell? ⟨w.heap.size, 8, none⟩ = some (.slice a7 r.day.length k7) ∧ W.cell? ⟨w.heap.size, 9, none⟩ = some (.slice a8 r.mday.length k8) ∧ W.cell? ⟨w.heap.size, 10, none⟩ = some (.slice a9 r.yday.length k9) ∧ W.cell? ⟨w.heap.size, 11, none⟩ = some (.slice a10 r.weekno.length k10) ∧ W.cell? ⟨w.heap.size, 12, none⟩ = some (.slice a11 r.month.length k11) ∧ W.cell? ⟨w.heap.size, 13, none⟩ = some (.slice a12 r.setpos.length k12)) := fun W hB => by
  have h := (RB.out.later hB).2.2.2.2.2.2.2
  exact ⟨(h 4 (by decide) (by decide)).trans (by rw [e4.out]), (h 5 (by decide) (by decide)).trans (by rw [e5.out]), (h 6 (by decide) (by decide)).trans (by rw [e6.out]), (h 7 (by decide) (by decide)).trans (by rw [e7.out]), (h 8 (by decide) (by decide)).trans (by rw [e8.out]), (h 9 (by decide) (by decide)).trans (by rw [e9.out]), (h 10 (by decide) (by decide)).trans (by rw [e10.out]), (h 11 (by decide) (by decide)).trans (by rw [e11.out]), (h 12 (by decide) (by decide)).trans (by rw [e12.out])⟩
 obtain ⟨s4, s5, s6, s7, s8, s9, s10, s11, s12⟩ := SL w1 (Below.refl _ _)
 replace SL := Lib.hid SL
 go_region_held3 (fun w' => w'.cell? ⟨w.heap.size, 5, none⟩ = some (.slice a4 r.sec.length k4) ∧ w'.cell? ⟨w.heap.size, 6, none⟩ = some (.slice a5 r.min.length k5) ∧ w'.cell? ⟨w.heap.size, 7, none⟩ = some (.slice a6 r.hour.length k6) ∧ w'.cell? ⟨w.heap.size, 8, none⟩ = some (.slice a7 r.day.length k7) ∧ w'.cell? ⟨w.heap.size, 9, none⟩ = some (.slice a8 r.mday.length k8) ∧ w'.cell? ⟨w.heap.size, 10, none⟩ = some (.slice a9 r.yday.length k9) ∧ w'.cell? ⟨w.heap.size, 11, none⟩ = some (.slice a10 r.weekno.length k10) ∧ w'.cell? ⟨w.heap.size, 12, none⟩ = some (.slice a11 r.month.length k11) ∧ w'.cell? ⟨w.heap.size, 13, none⟩ = some (.slice a12 r.setpos.length k12)) (first | go_keep | exact SL.out _ (by (repeat' (first|assumption|exact Below.refl _ _|apply Below.next_alloc|apply Below.drew|(apply Below.next;rotate_left;assumption)))))
  (first
   | (go_at_call 73; (with_reducible refine (F4.out _ (Below.next BW.out (by (repeat' (first|assumption|exact Below.refl _ _|apply Below.next_alloc|apply Below.drew|(apply Below.next;rotate_left;assumption)))))).mono ?_); rintro e y4 ⟨rfl, hB4⟩)
   | (go_at_call 73; (with_reducible refine (F5.out _ (Below.next BW.out (by (repeat' (first|assumption|exact Below.refl _ _|apply Below.next_alloc|apply Below.drew|(apply Below.next;rotate_left;assumption)))))).mono ?_); rintro e y5 ⟨rfl, hB5⟩)
   | (go_at_call 73; (with_reducible refine (F6.out _ (Below.next BW.out (by (repeat' (first|assumption|exact Below.refl _ _|apply Below.next_alloc|apply Below.drew|(apply Below.next;rotate_left;assumption)))))).mono ?_); rintro e y6 ⟨rfl, hB6⟩)
   | (go_at_call 74; (with_reducible refine (F7.out _ (Below.next BW.out (by (repeat' (first|assumption|exact Below.refl _ _|apply Below.next_alloc|apply Below.drew|(apply Below.next;rotate_left;assumption)))))).mono ?_); rintro e y7 ⟨rfl, hB7⟩)
   | (go_at_call 73; (with_reducible refine (F8.out _ (Below.next BW.out (by (repeat' (first|assumption|exact Below.refl _ _|apply Below.next_alloc|apply Below.drew|(apply Below.next;rotate_left;assumption)))))).mono ?_); rintro e y8 ⟨rfl, hB8⟩)
   | (go_at_call 73; (with_reducible refine (F9.out _ (Below.next BW.out (by (repeat' (first|assumption|exact Below.refl _ _|apply Below.next_alloc|apply Below.drew|(apply Below.next;rotate_left;assumption)))))).mono ?_); rintro e y9 ⟨rfl, hB9⟩)
   | (go_at_call 73; (with_reducible refine (F10.out _ (Below.next BW.out (by (repeat' (first|assumption|exact Below.refl _ _|apply Below.next_alloc|apply Below.drew|(apply Below.next;rotate_left;assumption)))))).mono ?_); rintro e y10 ⟨rfl, hB10⟩)
   | (go_at_call 73; (with_reducible refine (F11.out _ (Below.next BW.out (by (repeat' (first|assumption|exact Below.refl _ _|apply Below.next_alloc|apply Below.drew|(apply Below.next;rotate_left;assumption)))))).mono ?_); rintro e y11 ⟨rfl, hB11⟩)
   | (go_at_call 73; (with_reducible refine (F12.out _ (Below.next BW.out (by (repeat' (first|assumption|exact Below.refl _ _|apply Below.next_alloc|apply Below.drew|(apply Below.next;rotate_left;assumption)))))).mono ?_); rintro e y12 ⟨rfl, hB12⟩)
   | (go_at_call 72; (with_reducible refine (FF.out _ _).mono ?_); rintro e yf ⟨rfl, rfl⟩))
 go_wp2_with fail
 obtain ⟨u4, u5, u6, u7, u8, u9, u10, u11, u12⟩ := SL.out y12 (by (repeat' (first|assumption|exact Below.refl _ _|apply Below.next_alloc|apply Below.drew|(apply Below.next;rotate_left;assumption))))
 have BY := Lib.hid (show Below w1.heap.size w1 y12 by (repeat' (first|assumption|exact Below.refl _ _|apply Below.next_alloc|apply Below.drew|(apply Below.next;rotate_left;assumption))))
 have RY := RB.out.later BY.out
 have u0 := RY.2.1
 have hlt := RY.1
 clear RY
 go_wp2_with (first | (go_at_call 75; (with_reducible refine (FN.out _ (Below.next_alloc (Below.next BW.out BY.out) _)).mono ?_); rintro e w9 ⟨rfl, rfl⟩))
 all_goals
  try (exfalso; omega)
 all_goals
  go_ret
  (try simp only [beq_iff_eq, beq_eq_false_iff_ne, ne_eq] at *)
  first
   | exact ⟨ret_i (fin9f hr.out hN.out (by omega)).symm, Below.next BW.out (Below.next_alloc BY.out _)⟩
   | exact ⟨ret_i (fin0f hr.out hN.out (by omega)).symm, Below.next BW.out (Below.next_alloc BY.out _)⟩
end Go.Proofs.YtkbohijlhhpfbaaGreatDoor.Ra
