/- The walk of the law DaysetEnds (printed by gen_ends.py). -/
import Derived.Test.YtpfimkjfonijcaaDoorFe
namespace Go.Proofs.YtpfimkjfonijcaaDoor.Da
open Go.RowKit Ru Ut Cw Ra
set_option maxHeartbeats 8000000 in
set_option maxRecDepth 100000 in
theorem ends_month (k n : Int) (w : World) (hT : Tab w) (k0 : 0 ≤ k) (k1 : k ≤ 4294967295) (n0 : 0 ≤ n) (n1 : n ≤ 65535) : Calls Tryd.prog 5 #[.int .u32 k, .int .u16 n, .bool false] w fun e w' => e = .returned (.bool true) ∧ Below w.heap.size w w' := by
  obtain ⟨d, hd⟩ : ∃ d : Int, k % 3652059 = d := ⟨_, rfl⟩
  have d0 : 0 ≤ d := by omega
  have d1 : d ≤ 3652058 := by omega
  have hday : Civ.isDay d = true := (Civ.isDay_iff d).2 ⟨d0, d1⟩
  obtain ⟨a1, a2, b1, b2, c1, c2, _⟩ := Civ.date_spec d0 d1
  have hge := Civ.len_ge a1 a2 b1 b2
  have hbd := Civ.len_bd (Civ.dateY d) (Civ.dateM d)
  have FD := fun w hT => date_any d w hT
  rw [Civ.dateE_of d0 d1] at FD
  have FL := fun w hT => len_any (Civ.dateY d) (Civ.dateM d) w hT
  have HE := fun i h1 h2 => ends_M (i := i) hday h1 h2
  generalize Civ.len (Civ.dateY d) (Civ.dateM d) = L at *
  generalize Civ.dateY d = y at *
  generalize Civ.dateM d = m at *
  generalize Civ.dateD d = x at *
  obtain ⟨i, hi⟩ : ∃ i : Int, 1 + n % L = i := ⟨_, rfl⟩
  have i1 : 1 ≤ i := by have := Int.emod_nonneg n (show L ≠ 0 by omega); omega
  have i2 : i ≤ L := by have := Int.emod_lt_of_pos n (show 0 < L by omega); omega
  have hE := Lib.hid (HE i i1 i2)
  replace FD := Lib.hid FD
  replace FL := Lib.hid FL
  have HT := Lib.hid hT
  clear hT HE c1 c2 a1 a2 b1 b2 hday
  go_enter Tryd.func5, Tryd.ntmps5
  go_wp2_with (first
    | (go_at_call 17; (with_reducible refine (FD.out _ (HT.out.later (by (repeat' (first | assumption | exact Below.refl _ _ | apply Below.next_alloc | apply Below.drew | (apply Below.next; rotate_left; assumption)))))).mono ?_); rintro e w' ⟨rfl, rfl⟩)
    | (go_at_call 18; (with_reducible refine (FL.out _ (HT.out.later (by (repeat' (first | assumption | exact Below.refl _ _ | apply Below.next_alloc | apply Below.drew | (apply Below.next; rotate_left; assumption)))))).mono ?_); rintro e w' ⟨rfl, rfl⟩))
  generalize hW : World.alloc _ _ = W0
  have f0 : W0.cell? ⟨w.heap.size, 0, none⟩ = some (.int .i64 i) := by rw [← hW]; clear hW; go_simp
  have f1 : W0.cell? ⟨(w.heap.size + 1), 0, none⟩ = some (.int .u8 5) := by rw [← hW]; clear hW; go_simp
  have f2 : W0.cell? ⟨(w.heap.size + 1), 1, none⟩ = some (.int .i64 1) := by rw [← hW]; clear hW; go_simp
  have f3 : W0.cell? ⟨(w.heap.size + 1), 2, none⟩ = some (.int .i64 0) := by rw [← hW]; clear hW; go_simp
  have f4 : W0.cell? ⟨(w.heap.size + 1), 3, none⟩ = some (.int .u8 0) := by rw [← hW]; clear hW; go_simp
  have f5 : W0.cell? ⟨(w.heap.size + 1), 4, none⟩ = some (.int .i64 0) := by rw [← hW]; clear hW; go_simp
  have f6 : W0.cell? ⟨(w.heap.size + 1), 5, none⟩ = some (.slice none 0 0) := by rw [← hW]; clear hW; go_simp
  have f7 : W0.cell? ⟨(w.heap.size + 1), 6, none⟩ = some (.slice none 0 0) := by rw [← hW]; clear hW; go_simp
  have f8 : W0.cell? ⟨(w.heap.size + 1), 7, none⟩ = some (.slice none 0 0) := by rw [← hW]; clear hW; go_simp
  have f9 : W0.cell? ⟨(w.heap.size + 1), 8, none⟩ = some (.slice none 0 0) := by rw [← hW]; clear hW; go_simp
  have f10 : W0.cell? ⟨(w.heap.size + 1), 9, none⟩ = some (.slice (some ⟨w.heap.size, 0, none⟩) 1 1) := by rw [← hW]; clear hW; go_simp
  have f11 : W0.cell? ⟨(w.heap.size + 1), 10, none⟩ = some (.slice none 0 0) := by rw [← hW]; clear hW; go_simp
  have f12 : W0.cell? ⟨(w.heap.size + 1), 11, none⟩ = some (.slice none 0 0) := by rw [← hW]; clear hW; go_simp
  have f13 : W0.cell? ⟨(w.heap.size + 1), 12, none⟩ = some (.slice none 0 0) := by rw [← hW]; clear hW; go_simp
  have f14 : W0.cell? ⟨(w.heap.size + 1), 13, none⟩ = some (.slice none 0 0) := by rw [← hW]; clear hW; go_simp
  have f15 : W0.cell? ⟨(w.heap.size + 1), 14, none⟩ = some (.int .i64 0) := by rw [← hW]; clear hW; go_simp
  have f16 : W0.cell? ⟨(w.heap.size + 1 + 1), 0, none⟩ = some (.int .i64 (i - L - 1)) := by rw [← hW]; clear hW; go_simp
  have f17 : W0.cell? ⟨(w.heap.size + 1 + 1 + 1), 0, none⟩ = some (.int .u8 5) := by rw [← hW]; clear hW; go_simp
  have f18 : W0.cell? ⟨(w.heap.size + 1 + 1 + 1), 1, none⟩ = some (.int .i64 1) := by rw [← hW]; clear hW; go_simp
  have f19 : W0.cell? ⟨(w.heap.size + 1 + 1 + 1), 2, none⟩ = some (.int .i64 0) := by rw [← hW]; clear hW; go_simp
  have f20 : W0.cell? ⟨(w.heap.size + 1 + 1 + 1), 3, none⟩ = some (.int .u8 0) := by rw [← hW]; clear hW; go_simp
  have f21 : W0.cell? ⟨(w.heap.size + 1 + 1 + 1), 4, none⟩ = some (.int .i64 0) := by rw [← hW]; clear hW; go_simp
  have f22 : W0.cell? ⟨(w.heap.size + 1 + 1 + 1), 5, none⟩ = some (.slice none 0 0) := by rw [← hW]; clear hW; go_simp
  have f23 : W0.cell? ⟨(w.heap.size + 1 + 1 + 1), 6, none⟩ = some (.slice none 0 0) := by rw [← hW]; clear hW; go_simp
  have f24 : W0.cell? ⟨(w.heap.size + 1 + 1 + 1), 7, none⟩ = some (.slice none 0 0) := by rw [← hW]; clear hW; go_simp
  have f25 : W0.cell? ⟨(w.heap.size + 1 + 1 + 1), 8, none⟩ = some (.slice none 0 0) := by rw [← hW]; clear hW; go_simp
  have f26 : W0.cell? ⟨(w.heap.size + 1 + 1 + 1), 9, none⟩ = some (.slice (some ⟨(w.heap.size + 1 + 1), 0, none⟩) 1 1) := by rw [← hW]; clear hW; go_simp
  have f27 : W0.cell? ⟨(w.heap.size + 1 + 1 + 1), 10, none⟩ = some (.slice none 0 0) := by rw [← hW]; clear hW; go_simp
  have f28 : W0.cell? ⟨(w.heap.size + 1 + 1 + 1), 11, none⟩ = some (.slice none 0 0) := by rw [← hW]; clear hW; go_simp
  have f29 : W0.cell? ⟨(w.heap.size + 1 + 1 + 1), 12, none⟩ = some (.slice none 0 0) := by rw [← hW]; clear hW; go_simp
  have f30 : W0.cell? ⟨(w.heap.size + 1 + 1 + 1), 13, none⟩ = some (.slice none 0 0) := by rw [← hW]; clear hW; go_simp
  have f31 : W0.cell? ⟨(w.heap.size + 1 + 1 + 1), 14, none⟩ = some (.int .i64 0) := by rw [← hW]; clear hW; go_simp
  have hz : W0.heap.size = w.heap.size + 4 := by rw [← hW]; simp
  have hB0 := Lib.hid (show Below w.heap.size w W0 by rw [← hW]; exact Below.next_alloc (Below.next_alloc (Below.next_alloc (Below.next_alloc (Below.refl _ _) _) _) _) _)
  clear hW
  obtain ⟨b, hb⟩ : ∃ b, Dy.passes (rM i) 0 d = b := ⟨_, rfl⟩
  have P1 : ∀ W, Below W0.heap.size W0 W → Calls Tryd.prog 9 #[.agg #[.int .u8 5, .int .i64 1, .int .i64 0, .int .u8 0, .int .i64 0, .slice none 0 0, .slice none 0 0, .slice none 0 0, .slice none 0 0, .slice (some ⟨w.heap.size, 0, none⟩) 1 1, .slice none 0 0, .slice none 0 0, .slice none 0 0, .slice none 0 0, .int .i64 0], .int .i64 0, .int .i64 d] W fun e w' => e = .returned (.bool b) ∧ Below W.heap.size W w' := fun W hB => by
    have h := passM W w.heap.size i d (HT.out.later (Below.next hB0.out hB)) (by omega) (by have := hB.size; omega) ((hB.cell (p := ⟨w.heap.size, 0, none⟩) (by simp only; omega)).trans f0)
    rwa [hb] at h
  have P2 : ∀ W, Below W0.heap.size W0 W → Calls Tryd.prog 9 #[.agg #[.int .u8 5, .int .i64 1, .int .i64 0, .int .u8 0, .int .i64 0, .slice none 0 0, .slice none 0 0, .slice none 0 0, .slice none 0 0, .slice (some ⟨w.heap.size + 1 + 1, 0, none⟩) 1 1, .slice none 0 0, .slice none 0 0, .slice none 0 0, .slice none 0 0, .int .i64 0], .int .i64 0, .int .i64 d] W fun e w' => e = .returned (.bool b) ∧ Below W.heap.size W w' := fun W hB => by
    have h := passM W (w.heap.size + 1 + 1) (i - L - 1) d (HT.out.later (Below.next hB0.out hB)) (by omega) (by have := hB.size; omega) ((hB.cell (p := ⟨w.heap.size + 1 + 1, 0, none⟩) (by simp only; omega)).trans f16)
    rwa [← hE.out, hb] at h
  have AW := Lib.hid (fun W (hB : Below W0.heap.size W0 W) => awake_any W (HT.out.later (Below.next hB0.out hB)))
  replace P1 := Lib.hid P1
  replace P2 := Lib.hid P2
  have SL := Lib.hid (show ∀ W, Below W0.heap.size W0 W → (W.cell? ⟨(w.heap.size + 1), 0, none⟩ = some (.int .u8 5) ∧ W.cell? ⟨(w.heap.size + 1), 1, none⟩ = some (.int .i64 1) ∧ W.cell? ⟨(w.heap.size + 1), 2, none⟩ = some (.int .i64 0) ∧ W.cell? ⟨(w.heap.size + 1), 3, none⟩ = some (.int .u8 0) ∧ W.cell? ⟨(w.heap.size + 1), 4, none⟩ = some (.int .i64 0) ∧ W.cell? ⟨(w.heap.size + 1), 5, none⟩ = some (.slice none 0 0) ∧ W.cell? ⟨(w.heap.size + 1), 6, none⟩ = some (.slice none 0 0) ∧ W.cell? ⟨(w.heap.size + 1), 7, none⟩ = some (.slice none 0 0) ∧ W.cell? ⟨(w.heap.size + 1), 8, none⟩ = some (.slice none 0 0) ∧ W.cell? ⟨(w.heap.size + 1), 9, none⟩ = some (.slice (some ⟨w.heap.size, 0, none⟩) 1 1) ∧ W.cell? ⟨(w.heap.size + 1), 10, none⟩ = some (.slice none 0 0) ∧ W.cell? ⟨(w.heap.size + 1), 11, none⟩ = some (.slice none 0 0) ∧ W.cell? ⟨(w.heap.size + 1), 12, none⟩ = some (.slice none 0 0) ∧ W.cell? ⟨(w.heap.size + 1), 13, none⟩ = some (.slice none 0 0) ∧ W.cell? ⟨(w.heap.size + 1), 14, none⟩ = some (.int .i64 0) ∧ W.cell? ⟨(w.heap.size + 1 + 1 + 1), 0, none⟩ = some (.int .u8 5) ∧ W.cell? ⟨(w.heap.size + 1 + 1 + 1), 1, none⟩ = some (.int .i64 1) ∧ W.cell? ⟨(w.heap.size + 1 + 1 + 1), 2, none⟩ = some (.int .i64 0) ∧ W.cell? ⟨(w.heap.size + 1 + 1 + 1), 3, none⟩ = some (.int .u8 0) ∧ W.cell? ⟨(w.heap.size + 1 + 1 + 1), 4, none⟩ = some (.int .i64 0) ∧ W.cell? ⟨(w.heap.size + 1 + 1 + 1), 5, none⟩ = some (.slice none 0 0) ∧ W.cell? ⟨(w.heap.size + 1 + 1 + 1), 6, none⟩ = some (.slice none 0 0) ∧ W.cell? ⟨(w.heap.size + 1 + 1 + 1), 7, none⟩ = some (.slice none 0 0) ∧ W.cell? ⟨(w.heap.size + 1 + 1 + 1), 8, none⟩ = some (.slice none 0 0) ∧ W.cell? ⟨(w.heap.size + 1 + 1 + 1), 9, none⟩ = some (.slice (some ⟨(w.heap.size + 1 + 1), 0, none⟩) 1 1) ∧ W.cell? ⟨(w.heap.size + 1 + 1 + 1), 10, none⟩ = some (.slice none 0 0) ∧ W.cell? ⟨(w.heap.size + 1 + 1 + 1), 11, none⟩ = some (.slice none 0 0) ∧ W.cell? ⟨(w.heap.size + 1 + 1 + 1), 12, none⟩ = some (.slice none 0 0) ∧ W.cell? ⟨(w.heap.size + 1 + 1 + 1), 13, none⟩ = some (.slice none 0 0) ∧ W.cell? ⟨(w.heap.size + 1 + 1 + 1), 14, none⟩ = some (.int .i64 0)) from fun W hB => ⟨(hB.cell (p := ⟨(w.heap.size + 1), 0, none⟩) (by simp only; omega)).trans f1, (hB.cell (p := ⟨(w.heap.size + 1), 1, none⟩) (by simp only; omega)).trans f2, (hB.cell (p := ⟨(w.heap.size + 1), 2, none⟩) (by simp only; omega)).trans f3, (hB.cell (p := ⟨(w.heap.size + 1), 3, none⟩) (by simp only; omega)).trans f4, (hB.cell (p := ⟨(w.heap.size + 1), 4, none⟩) (by simp only; omega)).trans f5, (hB.cell (p := ⟨(w.heap.size + 1), 5, none⟩) (by simp only; omega)).trans f6, (hB.cell (p := ⟨(w.heap.size + 1), 6, none⟩) (by simp only; omega)).trans f7, (hB.cell (p := ⟨(w.heap.size + 1), 7, none⟩) (by simp only; omega)).trans f8, (hB.cell (p := ⟨(w.heap.size + 1), 8, none⟩) (by simp only; omega)).trans f9, (hB.cell (p := ⟨(w.heap.size + 1), 9, none⟩) (by simp only; omega)).trans f10, (hB.cell (p := ⟨(w.heap.size + 1), 10, none⟩) (by simp only; omega)).trans f11, (hB.cell (p := ⟨(w.heap.size + 1), 11, none⟩) (by simp only; omega)).trans f12, (hB.cell (p := ⟨(w.heap.size + 1), 12, none⟩) (by simp only; omega)).trans f13, (hB.cell (p := ⟨(w.heap.size + 1), 13, none⟩) (by simp only; omega)).trans f14, (hB.cell (p := ⟨(w.heap.size + 1), 14, none⟩) (by simp only; omega)).trans f15, (hB.cell (p := ⟨(w.heap.size + 1 + 1 + 1), 0, none⟩) (by simp only; omega)).trans f17, (hB.cell (p := ⟨(w.heap.size + 1 + 1 + 1), 1, none⟩) (by simp only; omega)).trans f18, (hB.cell (p := ⟨(w.heap.size + 1 + 1 + 1), 2, none⟩) (by simp only; omega)).trans f19, (hB.cell (p := ⟨(w.heap.size + 1 + 1 + 1), 3, none⟩) (by simp only; omega)).trans f20, (hB.cell (p := ⟨(w.heap.size + 1 + 1 + 1), 4, none⟩) (by simp only; omega)).trans f21, (hB.cell (p := ⟨(w.heap.size + 1 + 1 + 1), 5, none⟩) (by simp only; omega)).trans f22, (hB.cell (p := ⟨(w.heap.size + 1 + 1 + 1), 6, none⟩) (by simp only; omega)).trans f23, (hB.cell (p := ⟨(w.heap.size + 1 + 1 + 1), 7, none⟩) (by simp only; omega)).trans f24, (hB.cell (p := ⟨(w.heap.size + 1 + 1 + 1), 8, none⟩) (by simp only; omega)).trans f25, (hB.cell (p := ⟨(w.heap.size + 1 + 1 + 1), 9, none⟩) (by simp only; omega)).trans f26, (hB.cell (p := ⟨(w.heap.size + 1 + 1 + 1), 10, none⟩) (by simp only; omega)).trans f27, (hB.cell (p := ⟨(w.heap.size + 1 + 1 + 1), 11, none⟩) (by simp only; omega)).trans f28, (hB.cell (p := ⟨(w.heap.size + 1 + 1 + 1), 12, none⟩) (by simp only; omega)).trans f29, (hB.cell (p := ⟨(w.heap.size + 1 + 1 + 1), 13, none⟩) (by simp only; omega)).trans f30, (hB.cell (p := ⟨(w.heap.size + 1 + 1 + 1), 14, none⟩) (by simp only; omega)).trans f31⟩)
  clear hb hE
  cases b
  all_goals
    go_region_held3 (fun w' => w'.cell? ⟨(w.heap.size + 1), 0, none⟩ = some (.int .u8 5) ∧ w'.cell? ⟨(w.heap.size + 1), 1, none⟩ = some (.int .i64 1) ∧ w'.cell? ⟨(w.heap.size + 1), 2, none⟩ = some (.int .i64 0) ∧ w'.cell? ⟨(w.heap.size + 1), 3, none⟩ = some (.int .u8 0) ∧ w'.cell? ⟨(w.heap.size + 1), 4, none⟩ = some (.int .i64 0) ∧ w'.cell? ⟨(w.heap.size + 1), 5, none⟩ = some (.slice none 0 0) ∧ w'.cell? ⟨(w.heap.size + 1), 6, none⟩ = some (.slice none 0 0) ∧ w'.cell? ⟨(w.heap.size + 1), 7, none⟩ = some (.slice none 0 0) ∧ w'.cell? ⟨(w.heap.size + 1), 8, none⟩ = some (.slice none 0 0) ∧ w'.cell? ⟨(w.heap.size + 1), 9, none⟩ = some (.slice (some ⟨w.heap.size, 0, none⟩) 1 1) ∧ w'.cell? ⟨(w.heap.size + 1), 10, none⟩ = some (.slice none 0 0) ∧ w'.cell? ⟨(w.heap.size + 1), 11, none⟩ = some (.slice none 0 0) ∧ w'.cell? ⟨(w.heap.size + 1), 12, none⟩ = some (.slice none 0 0) ∧ w'.cell? ⟨(w.heap.size + 1), 13, none⟩ = some (.slice none 0 0) ∧ w'.cell? ⟨(w.heap.size + 1), 14, none⟩ = some (.int .i64 0) ∧ w'.cell? ⟨(w.heap.size + 1 + 1 + 1), 0, none⟩ = some (.int .u8 5) ∧ w'.cell? ⟨(w.heap.size + 1 + 1 + 1), 1, none⟩ = some (.int .i64 1) ∧ w'.cell? ⟨(w.heap.size + 1 + 1 + 1), 2, none⟩ = some (.int .i64 0) ∧ w'.cell? ⟨(w.heap.size + 1 + 1 + 1), 3, none⟩ = some (.int .u8 0) ∧ w'.cell? ⟨(w.heap.size + 1 + 1 + 1), 4, none⟩ = some (.int .i64 0) ∧ w'.cell? ⟨(w.heap.size + 1 + 1 + 1), 5, none⟩ = some (.slice none 0 0) ∧ w'.cell? ⟨(w.heap.size + 1 + 1 + 1), 6, none⟩ = some (.slice none 0 0) ∧ w'.cell? ⟨(w.heap.size + 1 + 1 + 1), 7, none⟩ = some (.slice none 0 0) ∧ w'.cell? ⟨(w.heap.size + 1 + 1 + 1), 8, none⟩ = some (.slice none 0 0) ∧ w'.cell? ⟨(w.heap.size + 1 + 1 + 1), 9, none⟩ = some (.slice (some ⟨(w.heap.size + 1 + 1), 0, none⟩) 1 1) ∧ w'.cell? ⟨(w.heap.size + 1 + 1 + 1), 10, none⟩ = some (.slice none 0 0) ∧ w'.cell? ⟨(w.heap.size + 1 + 1 + 1), 11, none⟩ = some (.slice none 0 0) ∧ w'.cell? ⟨(w.heap.size + 1 + 1 + 1), 12, none⟩ = some (.slice none 0 0) ∧ w'.cell? ⟨(w.heap.size + 1 + 1 + 1), 13, none⟩ = some (.slice none 0 0) ∧ w'.cell? ⟨(w.heap.size + 1 + 1 + 1), 14, none⟩ = some (.int .i64 0)) (first | ((with_reducible refine SL.out _ ?_); (with_reducible (repeat' (first | assumption | exact Below.refl _ _ | apply Below.next_alloc | apply Below.drew | (apply Below.next; rotate_left; assumption)))); done) | go_keep)
      (first
        | (go_at_call 9; (with_reducible refine (P1.out _ (by (repeat' (first | assumption | exact Below.refl _ _ | apply Below.next_alloc | apply Below.drew | (apply Below.next; rotate_left; assumption))))).mono ?_); rintro e y1 ⟨rfl, hB1⟩)
        | (go_at_call 9; (with_reducible refine (P2.out _ (by (repeat' (first | assumption | exact Below.refl _ _ | apply Below.next_alloc | apply Below.drew | (apply Below.next; rotate_left; assumption))))).mono ?_); rintro e y2 ⟨rfl, hB2⟩)
        | (go_at_call 8; (with_reducible refine (AW.out _ (by (repeat' (first | assumption | exact Below.refl _ _ | apply Below.next_alloc | apply Below.drew | (apply Below.next; rotate_left; assumption))))).mono ?_); rintro e y3 ⟨rfl, hB3⟩))
    go_wp2
    go_ret
    exact ⟨rfl, Below.next hB0.out (by (repeat' (first | assumption | exact Below.refl _ _ | apply Below.next_alloc | apply Below.drew | (apply Below.next; rotate_left; assumption))))⟩
end Go.Proofs.YtpfimkjfonijcaaDoor.Da
