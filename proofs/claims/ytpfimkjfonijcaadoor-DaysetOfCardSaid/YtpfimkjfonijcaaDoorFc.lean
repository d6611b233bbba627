import Derived.Test.YtpfimkjfonijcaaDoorFa
import Derived.Test.YtpfimkjfonijcaaDoorDk
import Derived.Test.YtpfimkjfonijcaaDoorLc
import Derived.ChangeKeysEq
/- The walk through errandlaw23's awake. -/
namespace Go.Proofs.YtpfimkjfonijcaaDoor.Da
open Go.RowKit Ru Ut Cw Ra
theorem OwnI.pos {w : World} {B : Nat} {v : Value} {l : List Int} (h : OwnI w B v l) (h0 : 0 < l.length) : ∃ b cap, v = .slice (some ⟨b, 0, none⟩) l.length cap ∧ b < w.heap.size ∧ ∀ i z, l[i]? = some z → w.cell? ⟨b, i, none⟩ = some (.int .i64 z) := by
  obtain ⟨g, cap, rfl, hb, hg, hc, _, hcell⟩ := ownsRow_pos h h0
  exact ⟨g, cap, rfl, hg, fun i z hz => hcell i _ (by unfold ic; rw [List.getElem?_map, hz]; rfl)⟩
def svN (_ : Nat) : Value := .slice none 0 0
def svD (b : Nat) (q : Nat) : Value := if q = 7 then .slice (some ⟨b, 0, none⟩) 1 1 else .slice none 0 0
theorem nilI (W : World) : Ints W (.slice none 0 0) [] := .inl ⟨rfl, none, 0, rfl, fun _ => rfl⟩
theorem nilD (W : World) : Days W (.slice none 0 0) [] := .inl ⟨rfl, none, 0, rfl, fun _ => rfl⟩
theorem q_cases {P : Nat → Prop} (h4 : P 4) (h5 : P 5) (h6 : P 6) (h8 : P 8) (h9 : P 9) (h10 : P 10) (h11 : P 11) (h12 : P 12) : ∀ q, 4 ≤ q → q ≤ 12 → q ≠ 7 → P q := fun q a b c => by
  have hc : q = 4 ∨ q = 5 ∨ q = 6 ∨ q = 8 ∨ q = 9 ∨ q = 10 ∨ q = 11 ∨ q = 12 := by omega
  rcases hc with rfl | rfl | rfl | rfl | rfl | rfl | rfl | rfl <;> assumption
theorem wide_1 : Wide ra1 := ⟨⟨q_cases (by decide) (by decide) (by decide) (by decide) (by decide) (by decide) (by decide) (by decide), by decide⟩, by decide, q_cases (by simp [lst, ra1]) (by simp [lst, ra1]) (by simp [lst, ra1]) (by simp [lst, ra1]) (by simp [lst, ra1]) (by simp [lst, ra1]) (by simp [lst, ra1]) (by simp [lst, ra1])⟩
theorem wide_2 : Wide ra2 := ⟨⟨q_cases (by decide) (by decide) (by decide) (by decide) (by decide) (by decide) (by decide) (by decide), by decide⟩, by decide, q_cases (by simp [lst, ra2]) (by simp [lst, ra2]) (by simp [lst, ra2]) (by simp [lst, ra2]) (by simp [lst, ra2]) (by simp [lst, ra2]) (by simp [lst, ra2]) (by simp [lst, ra2])⟩
theorem wide_0 : Wide ra0 := ⟨⟨q_cases (by decide) (by decide) (by decide) (by decide) (by decide) (by decide) (by decide) (by decide), by decide⟩, by decide, q_cases (by simp [lst, ra0]) (by simp [lst, ra0]) (by simp [lst, ra0]) (by simp [lst, ra0]) (by simp [lst, ra0]) (by simp [lst, ra0]) (by simp [lst, ra0]) (by simp [lst, ra0])⟩
theorem wide_3 : Wide ra3 := ⟨⟨q_cases (by decide) (by decide) (by decide) (by decide) (by decide) (by decide) (by decide) (by decide), by decide⟩, by decide, q_cases (by simp [lst, ra3]) (by simp [lst, ra3]) (by simp [lst, ra3]) (by simp [lst, ra3]) (by simp [lst, ra3]) (by simp [lst, ra3]) (by simp [lst, ra3]) (by simp [lst, ra3])⟩
theorem listsN (W : World) (r : R) (h : ∀ q, 4 ≤ q → q ≤ 12 → q ≠ 7 → lst r q = []) (hd : r.day = []) : Lists W r svN := ⟨fun q a b c => by rw [h q a b c]; exact nilI W, by rw [hd]; exact nilD W⟩
theorem aw_of1 (W : World) (b : Nat) (hT : Tab W) (hb : b < W.heap.size) (c0 : W.cell? ⟨b, 0, none⟩ = some (.int .i64 (-1))) (c1 : W.cell? ⟨b, 1, none⟩ = some (.int .i64 4)) :
    Calls Tryd.prog 15 #[.agg #[.int .u8 5, .int .i64 1, .int .i64 0, .int .u8 0, .int .i64 0, .slice none 0 0, .slice none 0 0, .slice none 0 0, .slice (some ⟨b, 0, none⟩) 1 1, .slice none 0 0, .slice none 0 0, .slice none 0 0, .slice none 0 0, .slice none 0 0, .int .i64 0], .int .i64 0, .int .i64 738885, .int .i64 738916] W (Gives W [738910]) := by
  have h := of_any W ra1 (svD b) 0 738885 738916 hT ⟨q_cases (nilI W) (nilI W) (nilI W) (nilI W) (nilI W) (nilI W) (nilI W) (nilI W), .inr ⟨by decide, b, 0, 1, rfl, hb, by decide, fun i hi => by
    obtain rfl : i = 0 := by simp [ra1] at hi; omega
    exact ⟨c0, c1⟩⟩⟩ wide_1 (by decide) (by decide)
  rw [ra1_of] at h
  exact h
theorem aw_of2 (W : World) (hT : Tab W) :
    Calls Tryd.prog 15 #[.agg #[.int .u8 5, .int .i64 1, .int .i64 0, .int .u8 0, .int .i64 0, .slice none 0 0, .slice none 0 0, .slice none 0 0, .slice none 0 0, .slice none 0 0, .slice none 0 0, .slice none 0 0, .slice none 0 0, .slice none 0 0, .int .i64 0], .int .i64 63842169600, .int .i64 738885, .int .i64 739251] W (Gives W [738914, 738974, 739005, 739035, 739066, 739096, 739127, 739158, 739188, 739219, 739249]) := by
  have h := of_any W ra2 svN 63842169600 738885 739251 hT (listsN W ra2 (q_cases rfl rfl rfl rfl rfl rfl rfl rfl) rfl) wide_2 (by decide) (by decide)
  rw [ra2_of] at h
  exact h
theorem aw_p0 (W : World) (hT : Tab W) :
    Calls Tryd.prog 9 #[.agg #[.int .u8 0, .int .i64 0, .int .i64 0, .int .u8 0, .int .i64 0, .slice none 0 0, .slice none 0 0, .slice none 0 0, .slice none 0 0, .slice none 0 0, .slice none 0 0, .slice none 0 0, .slice none 0 0, .slice none 0 0, .int .i64 0], .int .i64 0, .int .i64 0] W fun e w' => e = .returned (.bool false) ∧ Below W.heap.size W w' := by
  have h := passes_any W ra0 svN 0 0 hT (listsN W ra0 (q_cases rfl rfl rfl rfl rfl rfl rfl rfl) rfl) wide_0 (by decide)
  rw [ra0_passes] at h
  exact h
theorem aw_p3 (W : World) (hT : Tab W) :
    Calls Tryd.prog 9 #[.agg #[.int .u8 3, .int .i64 1, .int .i64 0, .int .u8 0, .int .i64 0, .slice none 0 0, .slice none 0 0, .slice none 0 0, .slice none 0 0, .slice none 0 0, .slice none 0 0, .slice none 0 0, .slice none 0 0, .slice none 0 0, .int .i64 0], .int .i64 0, .int .i64 5] W fun e w' => e = .returned (.bool true) ∧ Below W.heap.size W w' := by
  have h := passes_any W ra3 svN 0 5 hT (listsN W ra3 (q_cases rfl rfl rfl rfl rfl rfl rfl rfl) rfl) wide_3 (by decide)
  rw [ra3_passes] at h
  exact h
theorem aw_nth (W : World) (hT : Tab W) : Calls Tryd.prog 12 #[.int .i64 738910] W fun e w' => e = .returned (.agg #[.int .i64 4, .int .i64 (-1), .int .i64 4, .int .i64 (-49)]) ∧ Below W.heap.size W w' := by
  have h := nth_any W 738910 hT
  rw [ra_nth.1, ra_nth.2.1, ra_nth.2.2.1, ra_nth.2.2.2] at h
  exact h
end Go.Proofs.YtpfimkjfonijcaaDoor.Da

/- The walk through errandlaw23's awake (printed by gen_awake.py). -/
namespace Go.Proofs.YtpfimkjfonijcaaDoor.Da
open Go.RowKit Ru Ut Cw Ra
theorem eq4 (a b c d a' b' c' d' : Int) (W : World) : (Op.equalIn 10000 37 (.agg #[.int .i64 a, .int .i64 b, .int .i64 c, .int .i64 d]) (.agg #[.int .i64 a', .int .i64 b', .int .i64 c', .int .i64 d'])).run Tryd.prog W = .ok (decide (a = a') && (decide (b = b') && (decide (c = c') && decide (d = d')))) W := by
  obtain ⟨i, hi⟩ : ∃ i, Tryd.prog.info? 3 = some i := Option.isSome_iff_exists.1 (by kernel_rfl)
  have hc : Tryd.prog.cellsOf 3 = 1 := by kernel_rfl
  rw [run_equalIn_array W 9999 _ _ Tryd.underlying37 hi, hc]
  have hr : List.range 4 = [0, 1, 2, 3] := rfl
  rw [hr]
  simp [Op.eqItems, go_sem, Tryd.underlying3]
  by_cases h1 : a = a' <;> by_cases h2 : b = b' <;> by_cases h3 : c = c' <;> by_cases h4 : d = d' <;> simp [h1, h2, h3, h4]
theorem Below.next_allocs'' {w W : World} {o p : Obj} (h : Below ((w.alloc o).alloc p).heap.size ((w.alloc o).alloc p) W) : Below (w.alloc o).heap.size (w.alloc o) W := Below.next_allocs' h
set_option maxHeartbeats 8000000 in
set_option maxRecDepth 100000 in
theorem awake_any (w : World) (hT : Tab w) : Calls Tryd.prog 8 #[] w fun e w' => e = .returned (.bool true) ∧ Below w.heap.size w w' := by
  have HT := Lib.hid hT
  have A1 := Lib.hid aw_of1
  have A2 := Lib.hid aw_of2
  have P0 := Lib.hid aw_p0
  have P3 := Lib.hid aw_p3
  have NT := Lib.hid aw_nth
  have hE := fun W => eq4 4 (-1) 4 (-49) 4 (-1) 4 (-49) W
  simp only [decide_true, Bool.and_self] at hE
  clear hT
  go_enter Tryd.func8, Tryd.ntmps8
  go_wp2_with (first
    | (go_at_call 15; (with_reducible refine (A1.out _ w.heap.size (HT.out.later (by (repeat' (first | assumption | exact Below.refl _ _ | apply Below.next_alloc | apply Below.drew | (apply Below.next; rotate_left; assumption))))) (by simp only [World.size_alloc]; omega) ((own_two w _ _ _ 0).trans rfl) ((own_two w _ _ _ 1).trans rfl)).mono ?_); rintro e w1 ⟨v1, rfl, hO1, hB1⟩; have b1 := Lib.hid (Below.next_allocs' (Below.next_allocs'' hB1)); obtain ⟨g1, p1, rfl, hg1, hc1⟩ := OwnI.pos hO1 (by decide); have q1 := hc1 0 738910 rfl; clear hc1 hO1 A1)
    | (go_at_call 15; (with_reducible refine (A2.out _ (HT.out.later b1.out)).mono ?_); rintro e w2 ⟨v2, rfl, hO2, hB2⟩; have b2 := Lib.hid (Below.next b1.out hB2); obtain ⟨g2, p2, rfl, hg2, hc2⟩ := OwnI.pos hO2 (by decide); have q2 := hc2 1 738974 rfl; have q3 := (hB2.cell (p := ⟨g1, 0, none⟩) hg1).trans q1; clear hc2 hO2)
    | (go_at_call 12; (with_reducible refine (NT.out _ (HT.out.later b2.out)).mono ?_); rintro e w3 ⟨rfl, hB3⟩; have b3 := Lib.hid (Below.next b2.out hB3))
    | (go_at_call 9; (with_reducible refine (P0.out _ (HT.out.later b3.out)).mono ?_); rintro e w4 ⟨rfl, hB4⟩; have b4 := Lib.hid (Below.next b3.out hB4))
    | (go_at_call 9; (with_reducible refine (P3.out _ (HT.out.later b4.out)).mono ?_); rintro e w5 ⟨rfl, hB5⟩; have b5 := Lib.hid (Below.next b4.out hB5)))
  go_ret
  exact ⟨rfl, b5.out⟩
end Go.Proofs.YtpfimkjfonijcaaDoor.Da

