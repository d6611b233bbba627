/- The walks of the laws of chapter 22. -/
import Derived.Test.YtbabmcajnmohbaaDoorPr
import Derived.Test.YtbabmcajnmohbaaDoorPdb
import Derived.Test.YtbabmcajnmohbaaDoorBase
namespace Go.Proofs.YtbabmcajnmohbaaDoor.Pl
open Go.RowKit Cw
set_option maxHeartbeats 1000000 in
set_option maxRecDepth 100000 in
theorem awake_any (w : World) (hT : Tab w) : Calls Tryd.prog 17 #[] w fun e w' => e = .returned (.bool true) ∧ w = w' := by
  have HT := Lib.hid hT
  clear hT
  have e1 : Pd.frm 5 0 13 = 2678400 := by decide
  have e2 : Pd.to 5 0 13 = 5097600 := by decide
  have e3 : Pd.frm 4 6 0 = 0 := by decide
  have e4 : Pd.to 4 6 0 = 518400 := by decide
  have e5 : Pd.frm 6 0 0 = 0 := by decide
  have e6 : Pd.to 6 0 0 = 0 := by decide
  have e7 : Pd.index 5 0 31536000 = 24 := by decide
  have e8 : Pd.step 5 3 9 = 11 := by decide
  have e9 : Pd.step 5 3 8 = 8 := by decide
  have e10 : Pd.step 5 0 8 = -1 := by decide
  have e11 : Pd.last 6 0 = 9999 := by decide
  have e12 : Pd.index 2 0 7200 = 2 := by decide
  have e13 : Pd.index 7 0 0 = -1 := by decide
  go_enter Tryd.func17, Tryd.ntmps17
  go_wp2_with (first | (go_at_call 11; refine (stretch_any _ _ _ _ HT.out (by omega)).mono ?_; rintro e w' ⟨rfl, rfl⟩) | (go_at_call 13; refine (index_any _ _ _ _ HT.out (by omega)).mono ?_; rintro e w' ⟨rfl, rfl⟩) | (go_at_call 18; refine (step_any _ _ _ _).mono ?_; rintro e w' ⟨rfl, rfl⟩) | (go_at_call 15; refine (last_any _ _ _ HT.out (by omega)).mono ?_; rintro e w' ⟨rfl, rfl⟩))
  go_ret
  exact ⟨rfl, rfl⟩
set_option maxHeartbeats 1000000 in
theorem periodSteps_any (a k b : Int) (w : World) (hT : Tab w) : Calls Tryd.prog 4 #[.int .i64 a, .int .i64 k, .int .i64 b] w fun e w' => e = .returned (.bool true) ∧ Below w.heap.size w w' := by
  have HT := Lib.hid hT
  clear hT
  go_enter Tryd.func4, Tryd.ntmps4
  go_wp2_with (first | (go_at_call 18; refine (step_any _ _ _ _).mono ?_; rintro e w' ⟨rfl, rfl⟩) | (go_at_call 19; refine (rStep_any _ _ _ _).mono ?_; rintro e w' ⟨rfl, rfl⟩) | (go_at_call 17; refine (awake_any _ HT.out).mono ?_; rintro e w' ⟨rfl, rfl⟩))
  go_ret
  exact ⟨rfl, Below.refl _ _⟩
theorem idx2_0' (x y : Int) (w : World) : (Instr.index 22 (.agg #[.int .i64 x, .int .i64 y]) (.int .i64 0)).run Tryd.prog w = .ok (.int .i64 x) w := idx2_0 x y w
theorem idx2_1' (x y : Int) (w : World) : (Instr.index 22 (.agg #[.int .i64 x, .int .i64 y]) (.int .i64 1)).run Tryd.prog w = .ok (.int .i64 y) w := idx2_1 x y w
attribute [local go_sem] idx2_0' idx2_1'
set_option maxHeartbeats 1000000 in
theorem periodTells_any (f x a b : Int) (w : World) (hT : Tab w) (f0 : 0 ≤ f) : Calls Tryd.prog 3 #[.int .u8 f, .int .i64 x, .agg #[.int .i64 a, .int .i64 b]] w fun e w' => e = .returned (.bool true) ∧ Below w.heap.size w w' := by
  have HT := Lib.hid hT
  clear hT
  go_enter Tryd.func3, Tryd.ntmps3
  go_wp2_with (first | (go_at_call 11; refine (stretch_any _ _ _ _ (HT.out.later (by go_grown)) f0).mono ?_; rintro e w' ⟨rfl, rfl⟩) | (go_at_call 12; refine (rStretch_any _ _ _ _ f0).mono ?_; rintro e w' ⟨rfl, rfl⟩) | (go_at_call 13; refine (index_any _ _ _ _ (HT.out.later (by go_grown)) f0).mono ?_; rintro e w' ⟨rfl, rfl⟩) | (go_at_call 14; refine (rIndex_any _ _ _ _ f0).mono ?_; rintro e w' ⟨rfl, rfl⟩) | (go_at_call 15; refine (last_any _ _ _ (HT.out.later (by go_grown)) f0).mono ?_; rintro e w' ⟨rfl, rfl⟩) | (go_at_call 16; refine (rLast_any _ _ _ f0).mono ?_; rintro e w' ⟨rfl, rfl⟩) | (go_at_call 17; refine (awake_any _ (HT.out.later (by go_grown))).mono ?_; rintro e w' ⟨rfl, rfl⟩))
  go_quiet ((first | (go_at_call 13; exact Base.qsame (index_any _ _ _ _ (Tab.drewN (HT.out.later (by go_grown)) _) f0)) | (go_at_call 14; exact Base.qsame (rIndex_any _ _ _ _ f0)) | (go_at_call 15; exact Base.qsame (last_any _ _ _ (Tab.drewN (HT.out.later (by go_grown)) _) f0)) | (go_at_call 16; exact Base.qsame (rLast_any _ _ _ f0)) | (go_at_call 17; exact Base.qsame (awake_any _ (Tab.drewN (HT.out.later (by go_grown)) _)))))
  go_wp2
  go_ret
  exact ⟨rfl, Base.below_drewN (by go_grown) _⟩
set_option maxHeartbeats 1000000 in
theorem periodParts_any (a b c : Int) (w : World) (hT : Tab w) (a1 : 0 ≤ a) (a2 : a ≤ 255) (b1 : 0 ≤ b) (b2 : b ≤ 255) (c1 : 0 ≤ c) (c2 : c ≤ 18446744073709551615) : Calls Tryd.prog 5 #[.int .u8 a, .int .u8 b, .int .u64 c] w fun e w' => e = .returned (.bool true) ∧ Below w.heap.size w w' := by
  have HT := Lib.hid hT
  clear hT
  obtain ⟨f, hf⟩ : ∃ f : Int, f = a % 7 := ⟨_, rfl⟩
  obtain ⟨x, hx⟩ : ∃ x : Int, x = b % 7 := ⟨_, rfl⟩
  obtain ⟨s, hs⟩ : ∃ s : Int, s = c % 315537897600 := ⟨_, rfl⟩
  have f0 : 0 ≤ f := by omega
  have f1 : f ≤ 6 := by omega
  have x0 : 0 ≤ x := by omega
  have x1 : x ≤ 6 := by omega
  have s0 : 0 ≤ s := by omega
  have s1 : s ≤ 315537897599 := by omega
  have hf' : a % 7 = f := hf.symm
  have hx' : b % 7 = x := hx.symm
  have hs' : c % 315537897600 = s := hs.symm
  have hc := (Pd.counts_iff f x).2 ⟨f1, x0, x1⟩
  obtain ⟨i0, i1, i2⟩ := Pd.index_bd hc f0 s0 s1
  have ih := Pd.idx_hi hc f0
  have lb : Pd.last f x ≤ 315537897599 := by
    have bb := Wk.back_bd 3652058 x
    rw [ih]; repeat' split <;> omega
  clear ih hf hx hs
  obtain ⟨p1, p2, p3, p4, p5, p6, p7, p8⟩ := Pd.parts hc f0 s0 s1
  obtain ⟨i, hi⟩ : ∃ i : Int, i = Pd.index f x s := ⟨_, rfl⟩
  have hi' : Pd.index f x s = i := hi.symm
  rw [← hi] at p1 p2 p3 p4 p5 p6 p7 p8 i0 i1 i2
  obtain ⟨A, hA⟩ : ∃ A : Int, A = Pd.frm f x i := ⟨_, rfl⟩
  have hA' : Pd.frm f x i = A := hA.symm
  rw [← hA] at p1 p2 p6
  obtain ⟨B, hB⟩ : ∃ B : Int, B = Pd.to f x i := ⟨_, rfl⟩
  have hB' : Pd.to f x i = B := hB.symm
  rw [← hB] at p3 p4 p5 p7 p8
  clear hi hA hB i1
  by_cases q1 : B ≤ 315537897599
  · have p5' := p5 q1
    have t1 : (B == 315537897600) = false := by rw [beq_eq_false_iff_ne]; omega
    have t2 : (i == Pd.last f x) = false := by rw [beq_eq_false_iff_ne]; intro h; have := p7.2 h; omega
    clear p5 p7
    by_cases q2 : 0 < A
    · have p6' := p6 q2
      clear p6
      go_enter Tryd.func5, Tryd.ntmps5
      go_wp2_with (first | (go_at_call 13; refine (index_any _ _ _ _ HT.out f0).mono ?_; rintro e w' ⟨rfl, rfl⟩) | (go_at_call 11; refine (stretch_any _ _ _ _ HT.out f0).mono ?_; rintro e w' ⟨rfl, rfl⟩) | (go_at_call 15; refine (last_any _ _ _ HT.out f0).mono ?_; rintro e w' ⟨rfl, rfl⟩) | (go_at_call 17; refine (awake_any _ HT.out).mono ?_; rintro e w' ⟨rfl, rfl⟩))
      go_ret
      exact ⟨rfl, Below.refl _ _⟩
    · clear p6
      go_enter Tryd.func5, Tryd.ntmps5
      go_wp2_with (first | (go_at_call 13; refine (index_any _ _ _ _ HT.out f0).mono ?_; rintro e w' ⟨rfl, rfl⟩) | (go_at_call 11; refine (stretch_any _ _ _ _ HT.out f0).mono ?_; rintro e w' ⟨rfl, rfl⟩) | (go_at_call 15; refine (last_any _ _ _ HT.out f0).mono ?_; rintro e w' ⟨rfl, rfl⟩) | (go_at_call 17; refine (awake_any _ HT.out).mono ?_; rintro e w' ⟨rfl, rfl⟩))
      go_ret
      exact ⟨rfl, Below.refl _ _⟩
  · have t1 : (B == 315537897600) = true := by rw [beq_iff_eq]; omega
    have t2 : (i == Pd.last f x) = true := by rw [beq_iff_eq]; exact p7.1 (by omega)
    clear p5 p7
    by_cases q2 : 0 < A
    · have p6' := p6 q2
      clear p6
      go_enter Tryd.func5, Tryd.ntmps5
      go_wp2_with (first | (go_at_call 13; refine (index_any _ _ _ _ HT.out f0).mono ?_; rintro e w' ⟨rfl, rfl⟩) | (go_at_call 11; refine (stretch_any _ _ _ _ HT.out f0).mono ?_; rintro e w' ⟨rfl, rfl⟩) | (go_at_call 15; refine (last_any _ _ _ HT.out f0).mono ?_; rintro e w' ⟨rfl, rfl⟩) | (go_at_call 17; refine (awake_any _ HT.out).mono ?_; rintro e w' ⟨rfl, rfl⟩))
      go_ret
      exact ⟨rfl, Below.refl _ _⟩
    · clear p6
      go_enter Tryd.func5, Tryd.ntmps5
      go_wp2_with (first | (go_at_call 13; refine (index_any _ _ _ _ HT.out f0).mono ?_; rintro e w' ⟨rfl, rfl⟩) | (go_at_call 11; refine (stretch_any _ _ _ _ HT.out f0).mono ?_; rintro e w' ⟨rfl, rfl⟩) | (go_at_call 15; refine (last_any _ _ _ HT.out f0).mono ?_; rintro e w' ⟨rfl, rfl⟩) | (go_at_call 17; refine (awake_any _ HT.out).mono ?_; rintro e w' ⟨rfl, rfl⟩))
      go_ret
      exact ⟨rfl, Below.refl _ _⟩
set_option maxHeartbeats 1000000 in
theorem periodNext_any (a b c : Int) (w : World) (hT : Tab w) (a1 : 0 ≤ a) (a2 : a ≤ 4294967295) (b1 : 0 ≤ b) (b2 : b ≤ 4294967295) (c1 : 0 ≤ c) (c2 : c ≤ 65535) : Calls Tryd.prog 6 #[.int .u32 a, .int .u32 b, .int .u16 c] w fun e w' => e = .returned (.bool true) ∧ Below w.heap.size w w' := by
  have HT := Lib.hid hT
  clear hT
  obtain ⟨k, hk⟩ : ∃ k : Int, k = 1 + c % 1000 := ⟨_, rfl⟩
  have k1 : 1 ≤ k := by omega
  have k2 : k ≤ 1000 := by omega
  have hk' : 1 + c % 1000 = k := hk.symm
  obtain ⟨p1, p2, p3, p4, p5, p6⟩ := Pd.step_ok a1 a2 b1 b2 k1 k2
  clear hk
  obtain ⟨x, hx⟩ : ∃ x : Int, x = Pd.step a k b := ⟨_, rfl⟩
  have hx' : Pd.step a k b = x := hx.symm
  rw [← hx] at p1 p2 p3 p4 p5 p6
  clear hx
  have t1 : ((x - a) % k == 0) = true := by rw [beq_iff_eq]; exact p4
  clear p4
  by_cases hxa : x = a
  · have t2 : (x == a) = true := by rw [beq_iff_eq]; exact hxa
    clear p3 hxa
    go_enter Tryd.func6, Tryd.ntmps6
    go_wp2_with (first | (go_at_call 18; refine (step_any _ _ _ _).mono ?_; rintro e w' ⟨rfl, rfl⟩) | (go_at_call 17; refine (awake_any _ HT.out).mono ?_; rintro e w' ⟨rfl, rfl⟩))
    go_ret
    exact ⟨rfl, Below.refl _ _⟩
  · have t2 : (x == a) = false := by rw [beq_eq_false_iff_ne]; exact hxa
    have p3' : x - b < k := by omega
    clear p3 hxa
    go_enter Tryd.func6, Tryd.ntmps6
    go_wp2_with (first | (go_at_call 18; refine (step_any _ _ _ _).mono ?_; rintro e w' ⟨rfl, rfl⟩) | (go_at_call 17; refine (awake_any _ HT.out).mono ?_; rintro e w' ⟨rfl, rfl⟩))
    go_ret
    exact ⟨rfl, Below.refl _ _⟩
end Go.Proofs.YtbabmcajnmohbaaDoor.Pl
