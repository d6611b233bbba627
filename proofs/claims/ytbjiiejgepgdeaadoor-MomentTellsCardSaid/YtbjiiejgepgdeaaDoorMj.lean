/- The walks through errandref11's Parse, a theorem a way (printed by gen_ref.py). -/
import Derived.Test.YtbjiiejgepgdeaaDoorMi
import Derived.Test.YtbjiiejgepgdeaaDoorCr
import Derived.BigQuiet
namespace Go.Proofs.YtbjiiejgepgdeaaDoor.Ma
open Go.RowKit Mo Ut Cw
theorem below_set2 {w W : World} {a b : Value} (h : Below w.heap.size w W) : Below w.heap.size w ((W.setCell ⟨w.heap.size, 0, none⟩ a).setCell ⟨w.heap.size, 1, none⟩ b) :=
  (h.setCell (p := ⟨w.heap.size, 0, none⟩) (Nat.le_refl _) a).setCell (p := ⟨w.heap.size, 1, none⟩) (Nat.le_refl _) b
set_option maxHeartbeats 2000000 in
set_option maxRecDepth 100000 in
theorem rpOther (L : List UInt8) (w : World) (q8 : ((↑(str L).size : Int) == 8) = false) (q15 : ((↑(str L).size : Int) == 15) = false) (p8 : ((↑(str L).size : Int) != 8) = true) (p15 : ((↑(str L).size : Int) != 15) = true) (p16 : ((↑(str L).size : Int) != 16) = true) : Calls Tryd.prog 9 #[.string (str L)] w fun e w' => e = .returned (.tuple #[val 0 0, .int .i64 4]) ∧ Below w.heap.size w w' := by
  go_enter Tryd.func9, Tryd.ntmps9
  go_wp2_with (first | (go_at_call 23; with_reducible refine (D1.out _).mono ?_; rintro e w' ⟨rfl, rfl⟩) | (go_at_call 23; with_reducible refine (D2.out _).mono ?_; rintro e w' ⟨rfl, rfl⟩))
  refine bodyPost_ret (v := .tuple #[val 0 0, .int .i64 4]) (by simp [results, Tryd.results9, go_sem, val]) rfl ?_
  exact ⟨rfl, (by first | with_reducible exact below_set2 (Base.below_drewN (Below.next_alloc (Below.refl _ _) _) _) | with_reducible exact Below.next_alloc (Below.refl _ _) _ | with_reducible exact below_set2 (Below.next_alloc (Below.refl _ _) _) | with_reducible exact Base.below_drewN (Below.next_alloc (Below.refl _ _) _) _)⟩
set_option maxHeartbeats 2000000 in
set_option maxRecDepth 100000 in
theorem rp8d (L : List UInt8) (w : World) (hz : (str L).size = 8) (D1 : Hid (∀ w, Calls Tryd.prog 23 #[.string ((str L).extract 0 8)] w fun e w' => e = .returned (.bool false) ∧ w = w')) : Calls Tryd.prog 9 #[.string (str L)] w fun e w' => e = .returned (.tuple #[val 0 0, .int .i64 4]) ∧ Below w.heap.size w w' := by
  go_enter Tryd.func9, Tryd.ntmps9
  go_wp2_with (first | (go_at_call 23; with_reducible refine (D1.out _).mono ?_; rintro e w' ⟨rfl, rfl⟩) | (go_at_call 23; with_reducible refine (D2.out _).mono ?_; rintro e w' ⟨rfl, rfl⟩))
  refine bodyPost_ret (v := .tuple #[val 0 0, .int .i64 4]) (by simp [results, Tryd.results9, go_sem, val]) rfl ?_
  exact ⟨rfl, (by first | with_reducible exact below_set2 (Base.below_drewN (Below.next_alloc (Below.refl _ _) _) _) | with_reducible exact Below.next_alloc (Below.refl _ _) _ | with_reducible exact below_set2 (Below.next_alloc (Below.refl _ _) _) | with_reducible exact Base.below_drewN (Below.next_alloc (Below.refl _ _) _) _)⟩
set_option maxHeartbeats 2000000 in
set_option maxRecDepth 100000 in
theorem rp8e (L : List UInt8) (w : World) (hz : (str L).size = 8) (D1 : Hid (∀ w, Calls Tryd.prog 23 #[.string ((str L).extract 0 8)] w fun e w' => e = .returned (.bool true) ∧ w = w')) (y m d : Int) (N1 : Hid (∀ w, Calls Tryd.prog 25 #[.string ((str L).extract 0 4)] w fun e w' => e = .returned (.int .i64 y) ∧ w = w')) (N2 : Hid (∀ w, Calls Tryd.prog 25 #[.string ((str L).extract 4 6)] w fun e w' => e = .returned (.int .i64 m) ∧ w = w')) (N3 : Hid (∀ w, Calls Tryd.prog 25 #[.string ((str L).extract 6 8)] w fun e w' => e = .returned (.int .i64 d) ∧ w = w')) (hq : (Civ.dayE y m d != 0) = true) : Calls Tryd.prog 9 #[.string (str L)] w fun e w' => e = .returned (.tuple #[val 0 0, .int .i64 8]) ∧ Below w.heap.size w w' := by
  go_enter Tryd.func9, Tryd.ntmps9
  go_wp2_with (first | (go_at_call 23; with_reducible refine (D1.out _).mono ?_; rintro e w' ⟨rfl, rfl⟩) | (go_at_call 23; with_reducible refine (D2.out _).mono ?_; rintro e w' ⟨rfl, rfl⟩))
  go_quiet ((first | (go_at_call 25; with_reducible exact Base.qsame (N1.out _)) | (go_at_call 25; with_reducible exact Base.qsame (N2.out _)) | (go_at_call 25; with_reducible exact Base.qsame (N3.out _)) | (go_at_call 24; exact Base.qsame (rDay_any _ _ _ _))))
  go_wp2
  refine bodyPost_ret (v := .tuple #[val 0 0, .int .i64 8]) (by simp [results, Tryd.results9, go_sem, val]) rfl ?_
  exact ⟨rfl, (by first | with_reducible exact below_set2 (Base.below_drewN (Below.next_alloc (Below.refl _ _) _) _) | with_reducible exact Below.next_alloc (Below.refl _ _) _ | with_reducible exact below_set2 (Below.next_alloc (Below.refl _ _) _) | with_reducible exact Base.below_drewN (Below.next_alloc (Below.refl _ _) _) _)⟩
set_option maxHeartbeats 2000000 in
set_option maxRecDepth 100000 in
theorem rp8ok (L : List UInt8) (w : World) (hz : (str L).size = 8) (D1 : Hid (∀ w, Calls Tryd.prog 23 #[.string ((str L).extract 0 8)] w fun e w' => e = .returned (.bool true) ∧ w = w')) (y m d : Int) (N1 : Hid (∀ w, Calls Tryd.prog 25 #[.string ((str L).extract 0 4)] w fun e w' => e = .returned (.int .i64 y) ∧ w = w')) (N2 : Hid (∀ w, Calls Tryd.prog 25 #[.string ((str L).extract 4 6)] w fun e w' => e = .returned (.int .i64 m) ∧ w = w')) (N3 : Hid (∀ w, Calls Tryd.prog 25 #[.string ((str L).extract 6 8)] w fun e w' => e = .returned (.int .i64 d) ∧ w = w')) (hq : (Civ.dayE y m d != 0) = false) (n0 : 0 ≤ Civ.day y m d) (n1 : Civ.day y m d ≤ 3652058)  : Calls Tryd.prog 9 #[.string (str L)] w fun e w' => e = .returned (.tuple #[val 1 (Civ.day y m d * 86400), .int .i64 0]) ∧ Below w.heap.size w w' := by
  go_enter Tryd.func9, Tryd.ntmps9
  go_wp2_with (first | (go_at_call 23; with_reducible refine (D1.out _).mono ?_; rintro e w' ⟨rfl, rfl⟩) | (go_at_call 23; with_reducible refine (D2.out _).mono ?_; rintro e w' ⟨rfl, rfl⟩))
  go_quiet ((first | (go_at_call 25; with_reducible exact Base.qsame (N1.out _)) | (go_at_call 25; with_reducible exact Base.qsame (N2.out _)) | (go_at_call 25; with_reducible exact Base.qsame (N3.out _)) | (go_at_call 24; exact Base.qsame (rDay_any _ _ _ _))))
  go_wp2
  refine bodyPost_ret (v := .tuple #[val 1 (Civ.day y m d * 86400), .int .i64 0]) (by simp [results, Tryd.results9, go_sem, val]) rfl ?_
  exact ⟨rfl, (by first | with_reducible exact below_set2 (Base.below_drewN (Below.next_alloc (Below.refl _ _) _) _) | with_reducible exact Below.next_alloc (Below.refl _ _) _ | with_reducible exact below_set2 (Below.next_alloc (Below.refl _ _) _) | with_reducible exact Base.below_drewN (Below.next_alloc (Below.refl _ _) _) _)⟩
set_option maxHeartbeats 2000000 in
set_option maxRecDepth 100000 in
theorem rp15d (L : List UInt8) (w : World) (hz : (str L).size = 15) (D1 : Hid (∀ w, Calls Tryd.prog 23 #[.string ((str L).extract 0 8)] w fun e w' => e = .returned (.bool false) ∧ w = w')) : Calls Tryd.prog 9 #[.string (str L)] w fun e w' => e = .returned (.tuple #[val 0 0, .int .i64 4]) ∧ Below w.heap.size w w' := by
  go_enter Tryd.func9, Tryd.ntmps9
  go_wp2_with (first | (go_at_call 23; with_reducible refine (D1.out _).mono ?_; rintro e w' ⟨rfl, rfl⟩) | (go_at_call 23; with_reducible refine (D2.out _).mono ?_; rintro e w' ⟨rfl, rfl⟩))
  refine bodyPost_ret (v := .tuple #[val 0 0, .int .i64 4]) (by simp [results, Tryd.results9, go_sem, val]) rfl ?_
  exact ⟨rfl, (by first | with_reducible exact below_set2 (Base.below_drewN (Below.next_alloc (Below.refl _ _) _) _) | with_reducible exact Below.next_alloc (Below.refl _ _) _ | with_reducible exact below_set2 (Below.next_alloc (Below.refl _ _) _) | with_reducible exact Base.below_drewN (Below.next_alloc (Below.refl _ _) _) _)⟩
set_option maxHeartbeats 2000000 in
set_option maxRecDepth 100000 in
theorem rp15t (L : List UInt8) (w : World) (hz : (str L).size = 15) (D1 : Hid (∀ w, Calls Tryd.prog 23 #[.string ((str L).extract 0 8)] w fun e w' => e = .returned (.bool true) ∧ w = w')) (c8 : UInt8) (h8 : 8 < (str L).size) (hc8 : (str L)[8] = c8) (t8 : ((c8.toNat : Int) != 84) = true) : Calls Tryd.prog 9 #[.string (str L)] w fun e w' => e = .returned (.tuple #[val 0 0, .int .i64 4]) ∧ Below w.heap.size w w' := by
  go_enter Tryd.func9, Tryd.ntmps9
  go_wp2_with (first | (go_at_call 23; with_reducible refine (D1.out _).mono ?_; rintro e w' ⟨rfl, rfl⟩) | (go_at_call 23; with_reducible refine (D2.out _).mono ?_; rintro e w' ⟨rfl, rfl⟩))
  refine bodyPost_ret (v := .tuple #[val 0 0, .int .i64 4]) (by simp [results, Tryd.results9, go_sem, val]) rfl ?_
  exact ⟨rfl, (by first | with_reducible exact below_set2 (Base.below_drewN (Below.next_alloc (Below.refl _ _) _) _) | with_reducible exact Below.next_alloc (Below.refl _ _) _ | with_reducible exact below_set2 (Below.next_alloc (Below.refl _ _) _) | with_reducible exact Base.below_drewN (Below.next_alloc (Below.refl _ _) _) _)⟩
set_option maxHeartbeats 2000000 in
set_option maxRecDepth 100000 in
theorem rp15g (L : List UInt8) (w : World) (hz : (str L).size = 15) (D1 : Hid (∀ w, Calls Tryd.prog 23 #[.string ((str L).extract 0 8)] w fun e w' => e = .returned (.bool true) ∧ w = w')) (c8 : UInt8) (h8 : 8 < (str L).size) (hc8 : (str L)[8] = c8) (t8 : ((c8.toNat : Int) != 84) = false) (D2 : Hid (∀ w, Calls Tryd.prog 23 #[.string ((str L).extract 9 15)] w fun e w' => e = .returned (.bool false) ∧ w = w')) : Calls Tryd.prog 9 #[.string (str L)] w fun e w' => e = .returned (.tuple #[val 0 0, .int .i64 4]) ∧ Below w.heap.size w w' := by
  go_enter Tryd.func9, Tryd.ntmps9
  go_wp2_with (first | (go_at_call 23; with_reducible refine (D1.out _).mono ?_; rintro e w' ⟨rfl, rfl⟩) | (go_at_call 23; with_reducible refine (D2.out _).mono ?_; rintro e w' ⟨rfl, rfl⟩))
  refine bodyPost_ret (v := .tuple #[val 0 0, .int .i64 4]) (by simp [results, Tryd.results9, go_sem, val]) rfl ?_
  exact ⟨rfl, (by first | with_reducible exact below_set2 (Base.below_drewN (Below.next_alloc (Below.refl _ _) _) _) | with_reducible exact Below.next_alloc (Below.refl _ _) _ | with_reducible exact below_set2 (Below.next_alloc (Below.refl _ _) _) | with_reducible exact Base.below_drewN (Below.next_alloc (Below.refl _ _) _) _)⟩
set_option maxHeartbeats 2000000 in
set_option maxRecDepth 100000 in
theorem rp15e (L : List UInt8) (w : World) (hz : (str L).size = 15) (D1 : Hid (∀ w, Calls Tryd.prog 23 #[.string ((str L).extract 0 8)] w fun e w' => e = .returned (.bool true) ∧ w = w')) (c8 : UInt8) (h8 : 8 < (str L).size) (hc8 : (str L)[8] = c8) (t8 : ((c8.toNat : Int) != 84) = false) (D2 : Hid (∀ w, Calls Tryd.prog 23 #[.string ((str L).extract 9 15)] w fun e w' => e = .returned (.bool true) ∧ w = w')) (y m d : Int) (N1 : Hid (∀ w, Calls Tryd.prog 25 #[.string ((str L).extract 0 4)] w fun e w' => e = .returned (.int .i64 y) ∧ w = w')) (N2 : Hid (∀ w, Calls Tryd.prog 25 #[.string ((str L).extract 4 6)] w fun e w' => e = .returned (.int .i64 m) ∧ w = w')) (N3 : Hid (∀ w, Calls Tryd.prog 25 #[.string ((str L).extract 6 8)] w fun e w' => e = .returned (.int .i64 d) ∧ w = w')) (hq : (Civ.dayE y m d != 0) = true) : Calls Tryd.prog 9 #[.string (str L)] w fun e w' => e = .returned (.tuple #[val 0 0, .int .i64 8]) ∧ Below w.heap.size w w' := by
  go_enter Tryd.func9, Tryd.ntmps9
  go_wp2_with (first | (go_at_call 23; with_reducible refine (D1.out _).mono ?_; rintro e w' ⟨rfl, rfl⟩) | (go_at_call 23; with_reducible refine (D2.out _).mono ?_; rintro e w' ⟨rfl, rfl⟩))
  go_quiet ((first | (go_at_call 25; with_reducible exact Base.qsame (N1.out _)) | (go_at_call 25; with_reducible exact Base.qsame (N2.out _)) | (go_at_call 25; with_reducible exact Base.qsame (N3.out _)) | (go_at_call 24; exact Base.qsame (rDay_any _ _ _ _))))
  go_wp2
  refine bodyPost_ret (v := .tuple #[val 0 0, .int .i64 8]) (by simp [results, Tryd.results9, go_sem, val]) rfl ?_
  exact ⟨rfl, (by first | with_reducible exact below_set2 (Base.below_drewN (Below.next_alloc (Below.refl _ _) _) _) | with_reducible exact Below.next_alloc (Below.refl _ _) _ | with_reducible exact below_set2 (Below.next_alloc (Below.refl _ _) _) | with_reducible exact Base.below_drewN (Below.next_alloc (Below.refl _ _) _) _)⟩
set_option maxHeartbeats 2000000 in
set_option maxRecDepth 100000 in
theorem rp15h (L : List UInt8) (w : World) (hz : (str L).size = 15) (D1 : Hid (∀ w, Calls Tryd.prog 23 #[.string ((str L).extract 0 8)] w fun e w' => e = .returned (.bool true) ∧ w = w')) (c8 : UInt8) (h8 : 8 < (str L).size) (hc8 : (str L)[8] = c8) (t8 : ((c8.toNat : Int) != 84) = false) (D2 : Hid (∀ w, Calls Tryd.prog 23 #[.string ((str L).extract 9 15)] w fun e w' => e = .returned (.bool true) ∧ w = w')) (y m d : Int) (N1 : Hid (∀ w, Calls Tryd.prog 25 #[.string ((str L).extract 0 4)] w fun e w' => e = .returned (.int .i64 y) ∧ w = w')) (N2 : Hid (∀ w, Calls Tryd.prog 25 #[.string ((str L).extract 4 6)] w fun e w' => e = .returned (.int .i64 m) ∧ w = w')) (N3 : Hid (∀ w, Calls Tryd.prog 25 #[.string ((str L).extract 6 8)] w fun e w' => e = .returned (.int .i64 d) ∧ w = w')) (hq : (Civ.dayE y m d != 0) = false) (h i s : Int) (T1 : Hid (∀ w, Calls Tryd.prog 25 #[.string ((str L).extract 9 11)] w fun e w' => e = .returned (.int .i64 h) ∧ w = w')) (T2 : Hid (∀ w, Calls Tryd.prog 25 #[.string ((str L).extract 11 13)] w fun e w' => e = .returned (.int .i64 i) ∧ w = w')) (T3 : Hid (∀ w, Calls Tryd.prog 25 #[.string ((str L).extract 13 15)] w fun e w' => e = .returned (.int .i64 s) ∧ w = w')) (hb : 23 < h) : Calls Tryd.prog 9 #[.string (str L)] w fun e w' => e = .returned (.tuple #[val 0 0, .int .i64 8]) ∧ Below w.heap.size w w' := by
  go_enter Tryd.func9, Tryd.ntmps9
  go_wp2_with (first | (go_at_call 23; with_reducible refine (D1.out _).mono ?_; rintro e w' ⟨rfl, rfl⟩) | (go_at_call 23; with_reducible refine (D2.out _).mono ?_; rintro e w' ⟨rfl, rfl⟩))
  go_quiet ((first | (go_at_call 25; with_reducible exact Base.qsame (N1.out _)) | (go_at_call 25; with_reducible exact Base.qsame (N2.out _)) | (go_at_call 25; with_reducible exact Base.qsame (N3.out _)) | (go_at_call 24; exact Base.qsame (rDay_any _ _ _ _))))
  go_wp2
  obtain ⟨W, hW⟩ : ∃ W, W = (w.alloc (.cells #[.int .u8 0, .int .i64 0] 28)).drewN nq := ⟨_, rfl⟩
  rw [← hW]
  have hx : Bx w.heap.size W := hW ▸ Bx.start w _
  have hbw : Below w.heap.size w W := by rw [hW]; exact Base.below_drewN (Below.next_alloc (Below.refl _ _) _) _
  obtain ⟨_, c0, c1, f0, f1⟩ := hx
  clear hW
  go_quiet ((first | (go_at_call 25; with_reducible exact Base.qsame (T1.out _)) | (go_at_call 25; with_reducible exact Base.qsame (T2.out _)) | (go_at_call 25; with_reducible exact Base.qsame (T3.out _))))
  go_wp2
  refine bodyPost_ret (v := .tuple #[val 0 0, .int .i64 8]) (by simp [results, Tryd.results9, go_sem, val, c0, c1]) rfl ?_
  exact ⟨rfl, below_set2 (Base.below_drewN hbw _)⟩
set_option maxHeartbeats 2000000 in
set_option maxRecDepth 100000 in
theorem rp15i (L : List UInt8) (w : World) (hz : (str L).size = 15) (D1 : Hid (∀ w, Calls Tryd.prog 23 #[.string ((str L).extract 0 8)] w fun e w' => e = .returned (.bool true) ∧ w = w')) (c8 : UInt8) (h8 : 8 < (str L).size) (hc8 : (str L)[8] = c8) (t8 : ((c8.toNat : Int) != 84) = false) (D2 : Hid (∀ w, Calls Tryd.prog 23 #[.string ((str L).extract 9 15)] w fun e w' => e = .returned (.bool true) ∧ w = w')) (y m d : Int) (N1 : Hid (∀ w, Calls Tryd.prog 25 #[.string ((str L).extract 0 4)] w fun e w' => e = .returned (.int .i64 y) ∧ w = w')) (N2 : Hid (∀ w, Calls Tryd.prog 25 #[.string ((str L).extract 4 6)] w fun e w' => e = .returned (.int .i64 m) ∧ w = w')) (N3 : Hid (∀ w, Calls Tryd.prog 25 #[.string ((str L).extract 6 8)] w fun e w' => e = .returned (.int .i64 d) ∧ w = w')) (hq : (Civ.dayE y m d != 0) = false) (h i s : Int) (T1 : Hid (∀ w, Calls Tryd.prog 25 #[.string ((str L).extract 9 11)] w fun e w' => e = .returned (.int .i64 h) ∧ w = w')) (T2 : Hid (∀ w, Calls Tryd.prog 25 #[.string ((str L).extract 11 13)] w fun e w' => e = .returned (.int .i64 i) ∧ w = w')) (T3 : Hid (∀ w, Calls Tryd.prog 25 #[.string ((str L).extract 13 15)] w fun e w' => e = .returned (.int .i64 s) ∧ w = w')) (h1 : ¬ 23 < h) (hb : 59 < i) : Calls Tryd.prog 9 #[.string (str L)] w fun e w' => e = .returned (.tuple #[val 0 0, .int .i64 8]) ∧ Below w.heap.size w w' := by
  go_enter Tryd.func9, Tryd.ntmps9
  go_wp2_with (first | (go_at_call 23; with_reducible refine (D1.out _).mono ?_; rintro e w' ⟨rfl, rfl⟩) | (go_at_call 23; with_reducible refine (D2.out _).mono ?_; rintro e w' ⟨rfl, rfl⟩))
  go_quiet ((first | (go_at_call 25; with_reducible exact Base.qsame (N1.out _)) | (go_at_call 25; with_reducible exact Base.qsame (N2.out _)) | (go_at_call 25; with_reducible exact Base.qsame (N3.out _)) | (go_at_call 24; exact Base.qsame (rDay_any _ _ _ _))))
  go_wp2
  obtain ⟨W, hW⟩ : ∃ W, W = (w.alloc (.cells #[.int .u8 0, .int .i64 0] 28)).drewN nq := ⟨_, rfl⟩
  rw [← hW]
  have hx : Bx w.heap.size W := hW ▸ Bx.start w _
  have hbw : Below w.heap.size w W := by rw [hW]; exact Base.below_drewN (Below.next_alloc (Below.refl _ _) _) _
  obtain ⟨_, c0, c1, f0, f1⟩ := hx
  clear hW
  go_quiet ((first | (go_at_call 25; with_reducible exact Base.qsame (T1.out _)) | (go_at_call 25; with_reducible exact Base.qsame (T2.out _)) | (go_at_call 25; with_reducible exact Base.qsame (T3.out _))))
  go_wp2
  refine bodyPost_ret (v := .tuple #[val 0 0, .int .i64 8]) (by simp [results, Tryd.results9, go_sem, val, c0, c1]) rfl ?_
  exact ⟨rfl, below_set2 (Base.below_drewN hbw _)⟩
set_option maxHeartbeats 2000000 in
set_option maxRecDepth 100000 in
theorem rp15s (L : List UInt8) (w : World) (hz : (str L).size = 15) (D1 : Hid (∀ w, Calls Tryd.prog 23 #[.string ((str L).extract 0 8)] w fun e w' => e = .returned (.bool true) ∧ w = w')) (c8 : UInt8) (h8 : 8 < (str L).size) (hc8 : (str L)[8] = c8) (t8 : ((c8.toNat : Int) != 84) = false) (D2 : Hid (∀ w, Calls Tryd.prog 23 #[.string ((str L).extract 9 15)] w fun e w' => e = .returned (.bool true) ∧ w = w')) (y m d : Int) (N1 : Hid (∀ w, Calls Tryd.prog 25 #[.string ((str L).extract 0 4)] w fun e w' => e = .returned (.int .i64 y) ∧ w = w')) (N2 : Hid (∀ w, Calls Tryd.prog 25 #[.string ((str L).extract 4 6)] w fun e w' => e = .returned (.int .i64 m) ∧ w = w')) (N3 : Hid (∀ w, Calls Tryd.prog 25 #[.string ((str L).extract 6 8)] w fun e w' => e = .returned (.int .i64 d) ∧ w = w')) (hq : (Civ.dayE y m d != 0) = false) (h i s : Int) (T1 : Hid (∀ w, Calls Tryd.prog 25 #[.string ((str L).extract 9 11)] w fun e w' => e = .returned (.int .i64 h) ∧ w = w')) (T2 : Hid (∀ w, Calls Tryd.prog 25 #[.string ((str L).extract 11 13)] w fun e w' => e = .returned (.int .i64 i) ∧ w = w')) (T3 : Hid (∀ w, Calls Tryd.prog 25 #[.string ((str L).extract 13 15)] w fun e w' => e = .returned (.int .i64 s) ∧ w = w')) (h1 : ¬ 23 < h) (h2 : ¬ 59 < i) (hb : 59 < s) : Calls Tryd.prog 9 #[.string (str L)] w fun e w' => e = .returned (.tuple #[val 0 0, .int .i64 8]) ∧ Below w.heap.size w w' := by
  go_enter Tryd.func9, Tryd.ntmps9
  go_wp2_with (first | (go_at_call 23; with_reducible refine (D1.out _).mono ?_; rintro e w' ⟨rfl, rfl⟩) | (go_at_call 23; with_reducible refine (D2.out _).mono ?_; rintro e w' ⟨rfl, rfl⟩))
  go_quiet ((first | (go_at_call 25; with_reducible exact Base.qsame (N1.out _)) | (go_at_call 25; with_reducible exact Base.qsame (N2.out _)) | (go_at_call 25; with_reducible exact Base.qsame (N3.out _)) | (go_at_call 24; exact Base.qsame (rDay_any _ _ _ _))))
  go_wp2
  obtain ⟨W, hW⟩ : ∃ W, W = (w.alloc (.cells #[.int .u8 0, .int .i64 0] 28)).drewN nq := ⟨_, rfl⟩
  rw [← hW]
  have hx : Bx w.heap.size W := hW ▸ Bx.start w _
  have hbw : Below w.heap.size w W := by rw [hW]; exact Base.below_drewN (Below.next_alloc (Below.refl _ _) _) _
  obtain ⟨_, c0, c1, f0, f1⟩ := hx
  clear hW
  go_quiet ((first | (go_at_call 25; with_reducible exact Base.qsame (T1.out _)) | (go_at_call 25; with_reducible exact Base.qsame (T2.out _)) | (go_at_call 25; with_reducible exact Base.qsame (T3.out _))))
  go_wp2
  refine bodyPost_ret (v := .tuple #[val 0 0, .int .i64 8]) (by simp [results, Tryd.results9, go_sem, val, c0, c1]) rfl ?_
  exact ⟨rfl, below_set2 (Base.below_drewN hbw _)⟩
set_option maxHeartbeats 2000000 in
set_option maxRecDepth 100000 in
theorem rp15ok (L : List UInt8) (w : World) (hz : (str L).size = 15) (D1 : Hid (∀ w, Calls Tryd.prog 23 #[.string ((str L).extract 0 8)] w fun e w' => e = .returned (.bool true) ∧ w = w')) (c8 : UInt8) (h8 : 8 < (str L).size) (hc8 : (str L)[8] = c8) (t8 : ((c8.toNat : Int) != 84) = false) (D2 : Hid (∀ w, Calls Tryd.prog 23 #[.string ((str L).extract 9 15)] w fun e w' => e = .returned (.bool true) ∧ w = w')) (y m d : Int) (N1 : Hid (∀ w, Calls Tryd.prog 25 #[.string ((str L).extract 0 4)] w fun e w' => e = .returned (.int .i64 y) ∧ w = w')) (N2 : Hid (∀ w, Calls Tryd.prog 25 #[.string ((str L).extract 4 6)] w fun e w' => e = .returned (.int .i64 m) ∧ w = w')) (N3 : Hid (∀ w, Calls Tryd.prog 25 #[.string ((str L).extract 6 8)] w fun e w' => e = .returned (.int .i64 d) ∧ w = w')) (hq : (Civ.dayE y m d != 0) = false) (h i s : Int) (T1 : Hid (∀ w, Calls Tryd.prog 25 #[.string ((str L).extract 9 11)] w fun e w' => e = .returned (.int .i64 h) ∧ w = w')) (T2 : Hid (∀ w, Calls Tryd.prog 25 #[.string ((str L).extract 11 13)] w fun e w' => e = .returned (.int .i64 i) ∧ w = w')) (T3 : Hid (∀ w, Calls Tryd.prog 25 #[.string ((str L).extract 13 15)] w fun e w' => e = .returned (.int .i64 s) ∧ w = w')) (n0 : 0 ≤ Civ.day y m d) (n1 : Civ.day y m d ≤ 3652058) (h0 : 0 ≤ h) (i0 : 0 ≤ i) (s0 : 0 ≤ s) (h1 : ¬ 23 < h) (h2 : ¬ 59 < i) (h3 : ¬ 59 < s) : Calls Tryd.prog 9 #[.string (str L)] w fun e w' => e = .returned (.tuple #[val 2 (Civ.day y m d * 86400 + h * 3600 + i * 60 + s), .int .i64 0]) ∧ Below w.heap.size w w' := by
  go_enter Tryd.func9, Tryd.ntmps9
  go_wp2_with (first | (go_at_call 23; with_reducible refine (D1.out _).mono ?_; rintro e w' ⟨rfl, rfl⟩) | (go_at_call 23; with_reducible refine (D2.out _).mono ?_; rintro e w' ⟨rfl, rfl⟩))
  go_quiet ((first | (go_at_call 25; with_reducible exact Base.qsame (N1.out _)) | (go_at_call 25; with_reducible exact Base.qsame (N2.out _)) | (go_at_call 25; with_reducible exact Base.qsame (N3.out _)) | (go_at_call 24; exact Base.qsame (rDay_any _ _ _ _))))
  go_wp2
  obtain ⟨W, hW⟩ : ∃ W, W = (w.alloc (.cells #[.int .u8 0, .int .i64 0] 28)).drewN nq := ⟨_, rfl⟩
  rw [← hW]
  have hx : Bx w.heap.size W := hW ▸ Bx.start w _
  have hbw : Below w.heap.size w W := by rw [hW]; exact Base.below_drewN (Below.next_alloc (Below.refl _ _) _) _
  obtain ⟨_, c0, c1, f0, f1⟩ := hx
  clear hW
  go_quiet ((first | (go_at_call 25; with_reducible exact Base.qsame (T1.out _)) | (go_at_call 25; with_reducible exact Base.qsame (T2.out _)) | (go_at_call 25; with_reducible exact Base.qsame (T3.out _))))
  go_wp2
  refine bodyPost_ret (v := .tuple #[val 2 (Civ.day y m d * 86400 + h * 3600 + i * 60 + s), .int .i64 0]) (by simp [results, Tryd.results9, go_sem, val, c0, c1]) rfl ?_
  exact ⟨rfl, below_set2 (Base.below_drewN hbw _)⟩
set_option maxHeartbeats 2000000 in
set_option maxRecDepth 100000 in
theorem rp16z (L : List UInt8) (w : World) (hz : (str L).size = 16) (c15 : UInt8) (h15 : 15 < (str L).size) (hc15 : (str L)[15] = c15) (t15 : ((c15.toNat : Int) != 90) = true) : Calls Tryd.prog 9 #[.string (str L)] w fun e w' => e = .returned (.tuple #[val 0 0, .int .i64 4]) ∧ Below w.heap.size w w' := by
  go_enter Tryd.func9, Tryd.ntmps9
  go_wp2_with (first | (go_at_call 23; with_reducible refine (D1.out _).mono ?_; rintro e w' ⟨rfl, rfl⟩) | (go_at_call 23; with_reducible refine (D2.out _).mono ?_; rintro e w' ⟨rfl, rfl⟩))
  refine bodyPost_ret (v := .tuple #[val 0 0, .int .i64 4]) (by simp [results, Tryd.results9, go_sem, val]) rfl ?_
  exact ⟨rfl, (by first | with_reducible exact below_set2 (Base.below_drewN (Below.next_alloc (Below.refl _ _) _) _) | with_reducible exact Below.next_alloc (Below.refl _ _) _ | with_reducible exact below_set2 (Below.next_alloc (Below.refl _ _) _) | with_reducible exact Base.below_drewN (Below.next_alloc (Below.refl _ _) _) _)⟩
set_option maxHeartbeats 2000000 in
set_option maxRecDepth 100000 in
theorem rp16d (L : List UInt8) (w : World) (hz : (str L).size = 16) (c15 : UInt8) (h15 : 15 < (str L).size) (hc15 : (str L)[15] = c15) (t15 : ((c15.toNat : Int) != 90) = false) (D1 : Hid (∀ w, Calls Tryd.prog 23 #[.string ((str L).extract 0 8)] w fun e w' => e = .returned (.bool false) ∧ w = w')) : Calls Tryd.prog 9 #[.string (str L)] w fun e w' => e = .returned (.tuple #[val 0 0, .int .i64 4]) ∧ Below w.heap.size w w' := by
  go_enter Tryd.func9, Tryd.ntmps9
  go_wp2_with (first | (go_at_call 23; with_reducible refine (D1.out _).mono ?_; rintro e w' ⟨rfl, rfl⟩) | (go_at_call 23; with_reducible refine (D2.out _).mono ?_; rintro e w' ⟨rfl, rfl⟩))
  refine bodyPost_ret (v := .tuple #[val 0 0, .int .i64 4]) (by simp [results, Tryd.results9, go_sem, val]) rfl ?_
  exact ⟨rfl, (by first | with_reducible exact below_set2 (Base.below_drewN (Below.next_alloc (Below.refl _ _) _) _) | with_reducible exact Below.next_alloc (Below.refl _ _) _ | with_reducible exact below_set2 (Below.next_alloc (Below.refl _ _) _) | with_reducible exact Base.below_drewN (Below.next_alloc (Below.refl _ _) _) _)⟩
set_option maxHeartbeats 2000000 in
set_option maxRecDepth 100000 in
theorem rp16t (L : List UInt8) (w : World) (hz : (str L).size = 16) (c15 : UInt8) (h15 : 15 < (str L).size) (hc15 : (str L)[15] = c15) (t15 : ((c15.toNat : Int) != 90) = false) (D1 : Hid (∀ w, Calls Tryd.prog 23 #[.string ((str L).extract 0 8)] w fun e w' => e = .returned (.bool true) ∧ w = w')) (c8 : UInt8) (h8 : 8 < (str L).size) (hc8 : (str L)[8] = c8) (t8 : ((c8.toNat : Int) != 84) = true) : Calls Tryd.prog 9 #[.string (str L)] w fun e w' => e = .returned (.tuple #[val 0 0, .int .i64 4]) ∧ Below w.heap.size w w' := by
  go_enter Tryd.func9, Tryd.ntmps9
  go_wp2_with (first | (go_at_call 23; with_reducible refine (D1.out _).mono ?_; rintro e w' ⟨rfl, rfl⟩) | (go_at_call 23; with_reducible refine (D2.out _).mono ?_; rintro e w' ⟨rfl, rfl⟩))
  refine bodyPost_ret (v := .tuple #[val 0 0, .int .i64 4]) (by simp [results, Tryd.results9, go_sem, val]) rfl ?_
  exact ⟨rfl, (by first | with_reducible exact below_set2 (Base.below_drewN (Below.next_alloc (Below.refl _ _) _) _) | with_reducible exact Below.next_alloc (Below.refl _ _) _ | with_reducible exact below_set2 (Below.next_alloc (Below.refl _ _) _) | with_reducible exact Base.below_drewN (Below.next_alloc (Below.refl _ _) _) _)⟩
set_option maxHeartbeats 2000000 in
set_option maxRecDepth 100000 in
theorem rp16g (L : List UInt8) (w : World) (hz : (str L).size = 16) (c15 : UInt8) (h15 : 15 < (str L).size) (hc15 : (str L)[15] = c15) (t15 : ((c15.toNat : Int) != 90) = false) (D1 : Hid (∀ w, Calls Tryd.prog 23 #[.string ((str L).extract 0 8)] w fun e w' => e = .returned (.bool true) ∧ w = w')) (c8 : UInt8) (h8 : 8 < (str L).size) (hc8 : (str L)[8] = c8) (t8 : ((c8.toNat : Int) != 84) = false) (D2 : Hid (∀ w, Calls Tryd.prog 23 #[.string ((str L).extract 9 15)] w fun e w' => e = .returned (.bool false) ∧ w = w')) : Calls Tryd.prog 9 #[.string (str L)] w fun e w' => e = .returned (.tuple #[val 0 0, .int .i64 4]) ∧ Below w.heap.size w w' := by
  go_enter Tryd.func9, Tryd.ntmps9
  go_wp2_with (first | (go_at_call 23; with_reducible refine (D1.out _).mono ?_; rintro e w' ⟨rfl, rfl⟩) | (go_at_call 23; with_reducible refine (D2.out _).mono ?_; rintro e w' ⟨rfl, rfl⟩))
  refine bodyPost_ret (v := .tuple #[val 0 0, .int .i64 4]) (by simp [results, Tryd.results9, go_sem, val]) rfl ?_
  exact ⟨rfl, (by first | with_reducible exact below_set2 (Base.below_drewN (Below.next_alloc (Below.refl _ _) _) _) | with_reducible exact Below.next_alloc (Below.refl _ _) _ | with_reducible exact below_set2 (Below.next_alloc (Below.refl _ _) _) | with_reducible exact Base.below_drewN (Below.next_alloc (Below.refl _ _) _) _)⟩
set_option maxHeartbeats 2000000 in
set_option maxRecDepth 100000 in
theorem rp16e (L : List UInt8) (w : World) (hz : (str L).size = 16) (c15 : UInt8) (h15 : 15 < (str L).size) (hc15 : (str L)[15] = c15) (t15 : ((c15.toNat : Int) != 90) = false) (D1 : Hid (∀ w, Calls Tryd.prog 23 #[.string ((str L).extract 0 8)] w fun e w' => e = .returned (.bool true) ∧ w = w')) (c8 : UInt8) (h8 : 8 < (str L).size) (hc8 : (str L)[8] = c8) (t8 : ((c8.toNat : Int) != 84) = false) (D2 : Hid (∀ w, Calls Tryd.prog 23 #[.string ((str L).extract 9 15)] w fun e w' => e = .returned (.bool true) ∧ w = w')) (y m d : Int) (N1 : Hid (∀ w, Calls Tryd.prog 25 #[.string ((str L).extract 0 4)] w fun e w' => e = .returned (.int .i64 y) ∧ w = w')) (N2 : Hid (∀ w, Calls Tryd.prog 25 #[.string ((str L).extract 4 6)] w fun e w' => e = .returned (.int .i64 m) ∧ w = w')) (N3 : Hid (∀ w, Calls Tryd.prog 25 #[.string ((str L).extract 6 8)] w fun e w' => e = .returned (.int .i64 d) ∧ w = w')) (hq : (Civ.dayE y m d != 0) = true) : Calls Tryd.prog 9 #[.string (str L)] w fun e w' => e = .returned (.tuple #[val 0 0, .int .i64 8]) ∧ Below w.heap.size w w' := by
  go_enter Tryd.func9, Tryd.ntmps9
  go_wp2_with (first | (go_at_call 23; with_reducible refine (D1.out _).mono ?_; rintro e w' ⟨rfl, rfl⟩) | (go_at_call 23; with_reducible refine (D2.out _).mono ?_; rintro e w' ⟨rfl, rfl⟩))
  go_quiet ((first | (go_at_call 25; with_reducible exact Base.qsame (N1.out _)) | (go_at_call 25; with_reducible exact Base.qsame (N2.out _)) | (go_at_call 25; with_reducible exact Base.qsame (N3.out _)) | (go_at_call 24; exact Base.qsame (rDay_any _ _ _ _))))
  go_wp2
  refine bodyPost_ret (v := .tuple #[val 0 0, .int .i64 8]) (by simp [results, Tryd.results9, go_sem, val]) rfl ?_
  exact ⟨rfl, (by first | with_reducible exact below_set2 (Base.below_drewN (Below.next_alloc (Below.refl _ _) _) _) | with_reducible exact Below.next_alloc (Below.refl _ _) _ | with_reducible exact below_set2 (Below.next_alloc (Below.refl _ _) _) | with_reducible exact Base.below_drewN (Below.next_alloc (Below.refl _ _) _) _)⟩
set_option maxHeartbeats 2000000 in
set_option maxRecDepth 100000 in
theorem rp16h (L : List UInt8) (w : World) (hz : (str L).size = 16) (c15 : UInt8) (h15 : 15 < (str L).size) (hc15 : (str L)[15] = c15) (t15 : ((c15.toNat : Int) != 90) = false) (D1 : Hid (∀ w, Calls Tryd.prog 23 #[.string ((str L).extract 0 8)] w fun e w' => e = .returned (.bool true) ∧ w = w')) (c8 : UInt8) (h8 : 8 < (str L).size) (hc8 : (str L)[8] = c8) (t8 : ((c8.toNat : Int) != 84) = false) (D2 : Hid (∀ w, Calls Tryd.prog 23 #[.string ((str L).extract 9 15)] w fun e w' => e = .returned (.bool true) ∧ w = w')) (y m d : Int) (N1 : Hid (∀ w, Calls Tryd.prog 25 #[.string ((str L).extract 0 4)] w fun e w' => e = .returned (.int .i64 y) ∧ w = w')) (N2 : Hid (∀ w, Calls Tryd.prog 25 #[.string ((str L).extract 4 6)] w fun e w' => e = .returned (.int .i64 m) ∧ w = w')) (N3 : Hid (∀ w, Calls Tryd.prog 25 #[.string ((str L).extract 6 8)] w fun e w' => e = .returned (.int .i64 d) ∧ w = w')) (hq : (Civ.dayE y m d != 0) = false) (h i s : Int) (T1 : Hid (∀ w, Calls Tryd.prog 25 #[.string ((str L).extract 9 11)] w fun e w' => e = .returned (.int .i64 h) ∧ w = w')) (T2 : Hid (∀ w, Calls Tryd.prog 25 #[.string ((str L).extract 11 13)] w fun e w' => e = .returned (.int .i64 i) ∧ w = w')) (T3 : Hid (∀ w, Calls Tryd.prog 25 #[.string ((str L).extract 13 15)] w fun e w' => e = .returned (.int .i64 s) ∧ w = w')) (hb : 23 < h) : Calls Tryd.prog 9 #[.string (str L)] w fun e w' => e = .returned (.tuple #[val 0 0, .int .i64 8]) ∧ Below w.heap.size w w' := by
  go_enter Tryd.func9, Tryd.ntmps9
  go_wp2_with (first | (go_at_call 23; with_reducible refine (D1.out _).mono ?_; rintro e w' ⟨rfl, rfl⟩) | (go_at_call 23; with_reducible refine (D2.out _).mono ?_; rintro e w' ⟨rfl, rfl⟩))
  go_quiet ((first | (go_at_call 25; with_reducible exact Base.qsame (N1.out _)) | (go_at_call 25; with_reducible exact Base.qsame (N2.out _)) | (go_at_call 25; with_reducible exact Base.qsame (N3.out _)) | (go_at_call 24; exact Base.qsame (rDay_any _ _ _ _))))
  go_wp2
  obtain ⟨W, hW⟩ : ∃ W, W = (w.alloc (.cells #[.int .u8 0, .int .i64 0] 28)).drewN nq := ⟨_, rfl⟩
  rw [← hW]
  have hx : Bx w.heap.size W := hW ▸ Bx.start w _
  have hbw : Below w.heap.size w W := by rw [hW]; exact Base.below_drewN (Below.next_alloc (Below.refl _ _) _) _
  obtain ⟨_, c0, c1, f0, f1⟩ := hx
  clear hW
  go_quiet ((first | (go_at_call 25; with_reducible exact Base.qsame (T1.out _)) | (go_at_call 25; with_reducible exact Base.qsame (T2.out _)) | (go_at_call 25; with_reducible exact Base.qsame (T3.out _))))
  go_wp2
  refine bodyPost_ret (v := .tuple #[val 0 0, .int .i64 8]) (by simp [results, Tryd.results9, go_sem, val, c0, c1]) rfl ?_
  exact ⟨rfl, below_set2 (Base.below_drewN hbw _)⟩
set_option maxHeartbeats 2000000 in
set_option maxRecDepth 100000 in
theorem rp16i (L : List UInt8) (w : World) (hz : (str L).size = 16) (c15 : UInt8) (h15 : 15 < (str L).size) (hc15 : (str L)[15] = c15) (t15 : ((c15.toNat : Int) != 90) = false) (D1 : Hid (∀ w, Calls Tryd.prog 23 #[.string ((str L).extract 0 8)] w fun e w' => e = .returned (.bool true) ∧ w = w')) (c8 : UInt8) (h8 : 8 < (str L).size) (hc8 : (str L)[8] = c8) (t8 : ((c8.toNat : Int) != 84) = false) (D2 : Hid (∀ w, Calls Tryd.prog 23 #[.string ((str L).extract 9 15)] w fun e w' => e = .returned (.bool true) ∧ w = w')) (y m d : Int) (N1 : Hid (∀ w, Calls Tryd.prog 25 #[.string ((str L).extract 0 4)] w fun e w' => e = .returned (.int .i64 y) ∧ w = w')) (N2 : Hid (∀ w, Calls Tryd.prog 25 #[.string ((str L).extract 4 6)] w fun e w' => e = .returned (.int .i64 m) ∧ w = w')) (N3 : Hid (∀ w, Calls Tryd.prog 25 #[.string ((str L).extract 6 8)] w fun e w' => e = .returned (.int .i64 d) ∧ w = w')) (hq : (Civ.dayE y m d != 0) = false) (h i s : Int) (T1 : Hid (∀ w, Calls Tryd.prog 25 #[.string ((str L).extract 9 11)] w fun e w' => e = .returned (.int .i64 h) ∧ w = w')) (T2 : Hid (∀ w, Calls Tryd.prog 25 #[.string ((str L).extract 11 13)] w fun e w' => e = .returned (.int .i64 i) ∧ w = w')) (T3 : Hid (∀ w, Calls Tryd.prog 25 #[.string ((str L).extract 13 15)] w fun e w' => e = .returned (.int .i64 s) ∧ w = w')) (h1 : ¬ 23 < h) (hb : 59 < i) : Calls Tryd.prog 9 #[.string (str L)] w fun e w' => e = .returned (.tuple #[val 0 0, .int .i64 8]) ∧ Below w.heap.size w w' := by
  go_enter Tryd.func9, Tryd.ntmps9
  go_wp2_with (first | (go_at_call 23; with_reducible refine (D1.out _).mono ?_; rintro e w' ⟨rfl, rfl⟩) | (go_at_call 23; with_reducible refine (D2.out _).mono ?_; rintro e w' ⟨rfl, rfl⟩))
  go_quiet ((first | (go_at_call 25; with_reducible exact Base.qsame (N1.out _)) | (go_at_call 25; with_reducible exact Base.qsame (N2.out _)) | (go_at_call 25; with_reducible exact Base.qsame (N3.out _)) | (go_at_call 24; exact Base.qsame (rDay_any _ _ _ _))))
  go_wp2
  obtain ⟨W, hW⟩ : ∃ W, W = (w.alloc (.cells #[.int .u8 0, .int .i64 0] 28)).drewN nq := ⟨_, rfl⟩
  rw [← hW]
  have hx : Bx w.heap.size W := hW ▸ Bx.start w _
  have hbw : Below w.heap.size w W := by rw [hW]; exact Base.below_drewN (Below.next_alloc (Below.refl _ _) _) _
  obtain ⟨_, c0, c1, f0, f1⟩ := hx
  clear hW
  go_quiet ((first | (go_at_call 25; with_reducible exact Base.qsame (T1.out _)) | (go_at_call 25; with_reducible exact Base.qsame (T2.out _)) | (go_at_call 25; with_reducible exact Base.qsame (T3.out _))))
  go_wp2
  refine bodyPost_ret (v := .tuple #[val 0 0, .int .i64 8]) (by simp [results, Tryd.results9, go_sem, val, c0, c1]) rfl ?_
  exact ⟨rfl, below_set2 (Base.below_drewN hbw _)⟩
set_option maxHeartbeats 2000000 in
set_option maxRecDepth 100000 in
theorem rp16s (L : List UInt8) (w : World) (hz : (str L).size = 16) (c15 : UInt8) (h15 : 15 < (str L).size) (hc15 : (str L)[15] = c15) (t15 : ((c15.toNat : Int) != 90) = false) (D1 : Hid (∀ w, Calls Tryd.prog 23 #[.string ((str L).extract 0 8)] w fun e w' => e = .returned (.bool true) ∧ w = w')) (c8 : UInt8) (h8 : 8 < (str L).size) (hc8 : (str L)[8] = c8) (t8 : ((c8.toNat : Int) != 84) = false) (D2 : Hid (∀ w, Calls Tryd.prog 23 #[.string ((str L).extract 9 15)] w fun e w' => e = .returned (.bool true) ∧ w = w')) (y m d : Int) (N1 : Hid (∀ w, Calls Tryd.prog 25 #[.string ((str L).extract 0 4)] w fun e w' => e = .returned (.int .i64 y) ∧ w = w')) (N2 : Hid (∀ w, Calls Tryd.prog 25 #[.string ((str L).extract 4 6)] w fun e w' => e = .returned (.int .i64 m) ∧ w = w')) (N3 : Hid (∀ w, Calls Tryd.prog 25 #[.string ((str L).extract 6 8)] w fun e w' => e = .returned (.int .i64 d) ∧ w = w')) (hq : (Civ.dayE y m d != 0) = false) (h i s : Int) (T1 : Hid (∀ w, Calls Tryd.prog 25 #[.string ((str L).extract 9 11)] w fun e w' => e = .returned (.int .i64 h) ∧ w = w')) (T2 : Hid (∀ w, Calls Tryd.prog 25 #[.string ((str L).extract 11 13)] w fun e w' => e = .returned (.int .i64 i) ∧ w = w')) (T3 : Hid (∀ w, Calls Tryd.prog 25 #[.string ((str L).extract 13 15)] w fun e w' => e = .returned (.int .i64 s) ∧ w = w')) (h1 : ¬ 23 < h) (h2 : ¬ 59 < i) (hb : 59 < s) : Calls Tryd.prog 9 #[.string (str L)] w fun e w' => e = .returned (.tuple #[val 0 0, .int .i64 8]) ∧ Below w.heap.size w w' := by
  go_enter Tryd.func9, Tryd.ntmps9
  go_wp2_with (first | (go_at_call 23; with_reducible refine (D1.out _).mono ?_; rintro e w' ⟨rfl, rfl⟩) | (go_at_call 23; with_reducible refine (D2.out _).mono ?_; rintro e w' ⟨rfl, rfl⟩))
  go_quiet ((first | (go_at_call 25; with_reducible exact Base.qsame (N1.out _)) | (go_at_call 25; with_reducible exact Base.qsame (N2.out _)) | (go_at_call 25; with_reducible exact Base.qsame (N3.out _)) | (go_at_call 24; exact Base.qsame (rDay_any _ _ _ _))))
  go_wp2
  obtain ⟨W, hW⟩ : ∃ W, W = (w.alloc (.cells #[.int .u8 0, .int .i64 0] 28)).drewN nq := ⟨_, rfl⟩
  rw [← hW]
  have hx : Bx w.heap.size W := hW ▸ Bx.start w _
  have hbw : Below w.heap.size w W := by rw [hW]; exact Base.below_drewN (Below.next_alloc (Below.refl _ _) _) _
  obtain ⟨_, c0, c1, f0, f1⟩ := hx
  clear hW
  go_quiet ((first | (go_at_call 25; with_reducible exact Base.qsame (T1.out _)) | (go_at_call 25; with_reducible exact Base.qsame (T2.out _)) | (go_at_call 25; with_reducible exact Base.qsame (T3.out _))))
  go_wp2
  refine bodyPost_ret (v := .tuple #[val 0 0, .int .i64 8]) (by simp [results, Tryd.results9, go_sem, val, c0, c1]) rfl ?_
  exact ⟨rfl, below_set2 (Base.below_drewN hbw _)⟩
set_option maxHeartbeats 2000000 in
set_option maxRecDepth 100000 in
theorem rp16ok (L : List UInt8) (w : World) (hz : (str L).size = 16) (c15 : UInt8) (h15 : 15 < (str L).size) (hc15 : (str L)[15] = c15) (t15 : ((c15.toNat : Int) != 90) = false) (D1 : Hid (∀ w, Calls Tryd.prog 23 #[.string ((str L).extract 0 8)] w fun e w' => e = .returned (.bool true) ∧ w = w')) (c8 : UInt8) (h8 : 8 < (str L).size) (hc8 : (str L)[8] = c8) (t8 : ((c8.toNat : Int) != 84) = false) (D2 : Hid (∀ w, Calls Tryd.prog 23 #[.string ((str L).extract 9 15)] w fun e w' => e = .returned (.bool true) ∧ w = w')) (y m d : Int) (N1 : Hid (∀ w, Calls Tryd.prog 25 #[.string ((str L).extract 0 4)] w fun e w' => e = .returned (.int .i64 y) ∧ w = w')) (N2 : Hid (∀ w, Calls Tryd.prog 25 #[.string ((str L).extract 4 6)] w fun e w' => e = .returned (.int .i64 m) ∧ w = w')) (N3 : Hid (∀ w, Calls Tryd.prog 25 #[.string ((str L).extract 6 8)] w fun e w' => e = .returned (.int .i64 d) ∧ w = w')) (hq : (Civ.dayE y m d != 0) = false) (h i s : Int) (T1 : Hid (∀ w, Calls Tryd.prog 25 #[.string ((str L).extract 9 11)] w fun e w' => e = .returned (.int .i64 h) ∧ w = w')) (T2 : Hid (∀ w, Calls Tryd.prog 25 #[.string ((str L).extract 11 13)] w fun e w' => e = .returned (.int .i64 i) ∧ w = w')) (T3 : Hid (∀ w, Calls Tryd.prog 25 #[.string ((str L).extract 13 15)] w fun e w' => e = .returned (.int .i64 s) ∧ w = w')) (n0 : 0 ≤ Civ.day y m d) (n1 : Civ.day y m d ≤ 3652058) (h0 : 0 ≤ h) (i0 : 0 ≤ i) (s0 : 0 ≤ s) (h1 : ¬ 23 < h) (h2 : ¬ 59 < i) (h3 : ¬ 59 < s) : Calls Tryd.prog 9 #[.string (str L)] w fun e w' => e = .returned (.tuple #[val 3 (Civ.day y m d * 86400 + h * 3600 + i * 60 + s), .int .i64 0]) ∧ Below w.heap.size w w' := by
  go_enter Tryd.func9, Tryd.ntmps9
  go_wp2_with (first | (go_at_call 23; with_reducible refine (D1.out _).mono ?_; rintro e w' ⟨rfl, rfl⟩) | (go_at_call 23; with_reducible refine (D2.out _).mono ?_; rintro e w' ⟨rfl, rfl⟩))
  go_quiet ((first | (go_at_call 25; with_reducible exact Base.qsame (N1.out _)) | (go_at_call 25; with_reducible exact Base.qsame (N2.out _)) | (go_at_call 25; with_reducible exact Base.qsame (N3.out _)) | (go_at_call 24; exact Base.qsame (rDay_any _ _ _ _))))
  go_wp2
  obtain ⟨W, hW⟩ : ∃ W, W = (w.alloc (.cells #[.int .u8 0, .int .i64 0] 28)).drewN nq := ⟨_, rfl⟩
  rw [← hW]
  have hx : Bx w.heap.size W := hW ▸ Bx.start w _
  have hbw : Below w.heap.size w W := by rw [hW]; exact Base.below_drewN (Below.next_alloc (Below.refl _ _) _) _
  obtain ⟨_, c0, c1, f0, f1⟩ := hx
  clear hW
  go_quiet ((first | (go_at_call 25; with_reducible exact Base.qsame (T1.out _)) | (go_at_call 25; with_reducible exact Base.qsame (T2.out _)) | (go_at_call 25; with_reducible exact Base.qsame (T3.out _))))
  go_wp2
  refine bodyPost_ret (v := .tuple #[val 3 (Civ.day y m d * 86400 + h * 3600 + i * 60 + s), .int .i64 0]) (by simp [results, Tryd.results9, go_sem, val, c0, c1]) rfl ?_
  exact ⟨rfl, below_set2 (Base.below_drewN hbw _)⟩
end Go.Proofs.YtbjiiejgepgdeaaDoor.Ma
