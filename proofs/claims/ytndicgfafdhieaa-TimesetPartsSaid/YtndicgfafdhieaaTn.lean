/- What every right program lets pass of a day: the walk through errandlaw24's awake (printed by gen_tawake.py). -/
import Derived.Test.YtndicgfafdhieaaTm
namespace Go.Proofs.Ytndicgfafdhieaa.Tm
open Go.RowKit Ru Ut Cw Ra
theorem OwnI.pos {w : World} {B : Nat} {v : Value} {l : List Int} (h : OwnI w B v l) (h0 : 0 < l.length) : ∃ b cap, v = .slice (some ⟨b, 0, none⟩) l.length cap ∧ b < w.heap.size ∧ ∀ i z, l[i]? = some z → w.cell? ⟨b, i, none⟩ = some (.int .i64 z) := by
  obtain ⟨g, cap, rfl, hb, hg, hc, _, hcell⟩ := ownsRow_pos h h0
  exact ⟨g, cap, rfl, hg, fun i z hz => hcell i _ (by unfold ic; rw [List.getElem?_map, hz]; rfl)⟩
def ruleA : R := { freq := 3, interval := 1, count := 0, uk := 0, us := 0, sec := [], min := [], hour := [17, 9], day := [], mday := [], yday := [], weekno := [], month := [], setpos := [], wkst := 0 }
def ruleZ : R := { freq := 0, interval := 0, count := 0, uk := 0, us := 0, sec := [], min := [], hour := [], day := [], mday := [], yday := [], weekno := [], month := [], setpos := [], wkst := 0 }
def svA (b : Nat) (q : Nat) : Value := if q = 6 then .slice (some ⟨b, 0, none⟩) 2 2 else .slice none 0 0
def svZ (_ : Nat) : Value := .slice none 0 0
theorem nilI (W : World) : Ints W (.slice none 0 0) [] := .inl ⟨rfl, none, 0, rfl, fun _ => rfl⟩
theorem nilD (W : World) : Days W (.slice none 0 0) [] := .inl ⟨rfl, none, 0, rfl, fun _ => rfl⟩
theorem q_cases {P : Nat → Prop} (h4 : P 4) (h5 : P 5) (h6 : P 6) (h8 : P 8) (h9 : P 9) (h10 : P 10) (h11 : P 11) (h12 : P 12) : ∀ q, 4 ≤ q → q ≤ 12 → q ≠ 7 → P q := fun q a b c => by
  have hc : q = 4 ∨ q = 5 ∨ q = 6 ∨ q = 8 ∨ q = 9 ∨ q = 10 ∨ q = 11 ∨ q = 12 := by omega
  rcases hc with rfl | rfl | rfl | rfl | rfl | rfl | rfl | rfl <;> assumption
theorem wideA : Wide ruleA := ⟨⟨q_cases (by decide) (by decide) (by decide) (by decide) (by decide) (by decide) (by decide) (by decide), by decide⟩, by decide, q_cases (by simp [lst, ruleA]) (by simp [lst, ruleA]) (by intro x hx; simp [lst, ruleA] at hx; rcases hx with rfl | rfl <;> decide) (by simp [lst, ruleA]) (by simp [lst, ruleA]) (by simp [lst, ruleA]) (by simp [lst, ruleA]) (by simp [lst, ruleA])⟩
theorem wideZ : Wide ruleZ := ⟨⟨q_cases (by decide) (by decide) (by decide) (by decide) (by decide) (by decide) (by decide) (by decide), by decide⟩, by decide, q_cases (by simp [lst, ruleZ]) (by simp [lst, ruleZ]) (by simp [lst, ruleZ]) (by simp [lst, ruleZ]) (by simp [lst, ruleZ]) (by simp [lst, ruleZ]) (by simp [lst, ruleZ]) (by simp [lst, ruleZ])⟩
theorem listsA {W : World} {b : Nat} (hb : b < W.heap.size) (c0 : W.cell? ⟨b, 0, none⟩ = some (.int .i64 17)) (c1 : W.cell? ⟨b, 1, none⟩ = some (.int .i64 9)) : Lists W ruleA (svA b) :=
  ⟨q_cases (nilI W) (nilI W) (.inr ⟨by decide, b, 0, 2, rfl, hb, by decide, fun i hi => by
    have hi2 : i < 2 := hi
    match i, hi2 with
    | 0, _ => exact c0
    | 1, _ => exact c1⟩) (nilI W) (nilI W) (nilI W) (nilI W) (nilI W), nilD W⟩
theorem listsZ (W : World) : Lists W ruleZ svZ := ⟨q_cases (nilI W) (nilI W) (nilI W) (nilI W) (nilI W) (nilI W) (nilI W) (nilI W), nilD W⟩
theorem awk1 : secsOf ruleA 30600 0 86400 = [34200, 63000] := by rw [secs_eq]; decide +kernel
theorem awk2 : (secsOf ruleA 0 0 86400).length = 2 := by rw [secs_eq]; decide +kernel
theorem awk3 : passT ruleA 5 32405 = true := by rw [pass_eq]; decide +kernel
theorem awk4 : passT ruleA 5 32400 = false := by rw [pass_eq]; decide +kernel
theorem awk5 : passT ruleZ 0 0 = false := by rw [pass_eq]; decide +kernel
set_option maxHeartbeats 8000000 in
set_option maxRecDepth 100000 in
theorem tawake_any (w : World) : Calls Try.prog 8 #[] w fun e w' => e = .returned (.bool true) ∧ Below w.heap.size w w' := by
  have LA : ∀ W, Below ((w.alloc (.cells #[.int .i64 17, .int .i64 9] 3)).alloc (.cells #[.int .u8 3, .int .i64 1, .int .i64 0, .int .u8 0, .int .i64 0, .slice none 0 0, .slice none 0 0, .slice (some ⟨w.heap.size, 0, none⟩) 2 2, .slice none 0 0, .slice none 0 0, .slice none 0 0, .slice none 0 0, .slice none 0 0, .slice none 0 0, .int .i64 0] 34)).heap.size ((w.alloc (.cells #[.int .i64 17, .int .i64 9] 3)).alloc (.cells #[.int .u8 3, .int .i64 1, .int .i64 0, .int .u8 0, .int .i64 0, .slice none 0 0, .slice none 0 0, .slice (some ⟨w.heap.size, 0, none⟩) 2 2, .slice none 0 0, .slice none 0 0, .slice none 0 0, .slice none 0 0, .slice none 0 0, .slice none 0 0, .int .i64 0] 34)) W → Lists W ruleA (svA w.heap.size) := fun W hB => by
    have hb := hB.size
    simp only [World.size_alloc] at hb
    exact listsA (by omega) ((hB.cell (p := ⟨w.heap.size, 0, none⟩) (by simp; omega)).trans ((own_two w _ _ _ 0).trans rfl)) ((hB.cell (p := ⟨w.heap.size, 1, none⟩) (by simp; omega)).trans ((own_two w _ _ _ 1).trans rfl))
  have A1 : ∀ W, Below ((w.alloc (.cells #[.int .i64 17, .int .i64 9] 3)).alloc (.cells #[.int .u8 3, .int .i64 1, .int .i64 0, .int .u8 0, .int .i64 0, .slice none 0 0, .slice none 0 0, .slice (some ⟨w.heap.size, 0, none⟩) 2 2, .slice none 0 0, .slice none 0 0, .slice none 0 0, .slice none 0 0, .slice none 0 0, .slice none 0 0, .int .i64 0] 34)).heap.size ((w.alloc (.cells #[.int .i64 17, .int .i64 9] 3)).alloc (.cells #[.int .u8 3, .int .i64 1, .int .i64 0, .int .u8 0, .int .i64 0, .slice none 0 0, .slice none 0 0, .slice (some ⟨w.heap.size, 0, none⟩) 2 2, .slice none 0 0, .slice none 0 0, .slice none 0 0, .slice none 0 0, .slice none 0 0, .slice none 0 0, .int .i64 0] 34)) W → Calls Try.prog 12 #[.agg #[.int .u8 3, .int .i64 1, .int .i64 0, .int .u8 0, .int .i64 0, .slice none 0 0, .slice none 0 0, .slice (some ⟨w.heap.size, 0, none⟩) 2 2, .slice none 0 0, .slice none 0 0, .slice none 0 0, .slice none 0 0, .slice none 0 0, .slice none 0 0, .int .i64 0], .int .i64 30600, .int .i64 0, .int .i64 86400] W (Gives W [34200, 63000]) := fun W hB => by
    have := tof_any W ruleA (svA w.heap.size) 30600 0 86400 (LA W hB) wideA
    rw [awk1] at this
    exact this
  have A2 : ∀ W, Below ((w.alloc (.cells #[.int .i64 17, .int .i64 9] 3)).alloc (.cells #[.int .u8 3, .int .i64 1, .int .i64 0, .int .u8 0, .int .i64 0, .slice none 0 0, .slice none 0 0, .slice (some ⟨w.heap.size, 0, none⟩) 2 2, .slice none 0 0, .slice none 0 0, .slice none 0 0, .slice none 0 0, .slice none 0 0, .slice none 0 0, .int .i64 0] 34)).heap.size ((w.alloc (.cells #[.int .i64 17, .int .i64 9] 3)).alloc (.cells #[.int .u8 3, .int .i64 1, .int .i64 0, .int .u8 0, .int .i64 0, .slice none 0 0, .slice none 0 0, .slice (some ⟨w.heap.size, 0, none⟩) 2 2, .slice none 0 0, .slice none 0 0, .slice none 0 0, .slice none 0 0, .slice none 0 0, .slice none 0 0, .int .i64 0] 34)) W → Calls Try.prog 15 #[.agg #[.int .u8 3, .int .i64 1, .int .i64 0, .int .u8 0, .int .i64 0, .slice none 0 0, .slice none 0 0, .slice (some ⟨w.heap.size, 0, none⟩) 2 2, .slice none 0 0, .slice none 0 0, .slice none 0 0, .slice none 0 0, .slice none 0 0, .slice none 0 0, .int .i64 0], .int .i64 0, .int .i64 0, .int .i64 86400] W fun e w' => e = .returned (.int .i64 2) ∧ Below W.heap.size W w' := fun W hB => by
    have := tcount_any W ruleA (svA w.heap.size) 0 0 86400 (LA W hB) wideA
    rw [awk2] at this
    exact this
  have A3 : ∀ W, Below ((w.alloc (.cells #[.int .i64 17, .int .i64 9] 3)).alloc (.cells #[.int .u8 3, .int .i64 1, .int .i64 0, .int .u8 0, .int .i64 0, .slice none 0 0, .slice none 0 0, .slice (some ⟨w.heap.size, 0, none⟩) 2 2, .slice none 0 0, .slice none 0 0, .slice none 0 0, .slice none 0 0, .slice none 0 0, .slice none 0 0, .int .i64 0] 34)).heap.size ((w.alloc (.cells #[.int .i64 17, .int .i64 9] 3)).alloc (.cells #[.int .u8 3, .int .i64 1, .int .i64 0, .int .u8 0, .int .i64 0, .slice none 0 0, .slice none 0 0, .slice (some ⟨w.heap.size, 0, none⟩) 2 2, .slice none 0 0, .slice none 0 0, .slice none 0 0, .slice none 0 0, .slice none 0 0, .slice none 0 0, .int .i64 0] 34)) W → Calls Try.prog 9 #[.agg #[.int .u8 3, .int .i64 1, .int .i64 0, .int .u8 0, .int .i64 0, .slice none 0 0, .slice none 0 0, .slice (some ⟨w.heap.size, 0, none⟩) 2 2, .slice none 0 0, .slice none 0 0, .slice none 0 0, .slice none 0 0, .slice none 0 0, .slice none 0 0, .int .i64 0], .int .i64 5, .int .i64 32405] W fun e w' => e = .returned (.bool true) ∧ Below W.heap.size W w' := fun W hB => by
    have := tpasses_any W ruleA (svA w.heap.size) 5 32405 (LA W hB) wideA
    rw [awk3] at this
    exact this
  have A4 : ∀ W, Below ((w.alloc (.cells #[.int .i64 17, .int .i64 9] 3)).alloc (.cells #[.int .u8 3, .int .i64 1, .int .i64 0, .int .u8 0, .int .i64 0, .slice none 0 0, .slice none 0 0, .slice (some ⟨w.heap.size, 0, none⟩) 2 2, .slice none 0 0, .slice none 0 0, .slice none 0 0, .slice none 0 0, .slice none 0 0, .slice none 0 0, .int .i64 0] 34)).heap.size ((w.alloc (.cells #[.int .i64 17, .int .i64 9] 3)).alloc (.cells #[.int .u8 3, .int .i64 1, .int .i64 0, .int .u8 0, .int .i64 0, .slice none 0 0, .slice none 0 0, .slice (some ⟨w.heap.size, 0, none⟩) 2 2, .slice none 0 0, .slice none 0 0, .slice none 0 0, .slice none 0 0, .slice none 0 0, .slice none 0 0, .int .i64 0] 34)) W → Calls Try.prog 9 #[.agg #[.int .u8 3, .int .i64 1, .int .i64 0, .int .u8 0, .int .i64 0, .slice none 0 0, .slice none 0 0, .slice (some ⟨w.heap.size, 0, none⟩) 2 2, .slice none 0 0, .slice none 0 0, .slice none 0 0, .slice none 0 0, .slice none 0 0, .slice none 0 0, .int .i64 0], .int .i64 5, .int .i64 32400] W fun e w' => e = .returned (.bool false) ∧ Below W.heap.size W w' := fun W hB => by
    have := tpasses_any W ruleA (svA w.heap.size) 5 32400 (LA W hB) wideA
    rw [awk4] at this
    exact this
  have A5 : ∀ W, Calls Try.prog 9 #[.agg #[.int .u8 0, .int .i64 0, .int .i64 0, .int .u8 0, .int .i64 0, .slice none 0 0, .slice none 0 0, .slice none 0 0, .slice none 0 0, .slice none 0 0, .slice none 0 0, .slice none 0 0, .slice none 0 0, .slice none 0 0, .int .i64 0], .int .i64 0, .int .i64 0] W fun e w' => e = .returned (.bool false) ∧ Below W.heap.size W w' := fun W => by
    have := tpasses_any W ruleZ svZ 0 0 (listsZ W) wideZ
    rw [awk5] at this
    exact this
  have BX : ∀ W, Below ((w.alloc (.cells #[.int .i64 17, .int .i64 9] 3)).alloc (.cells #[.int .u8 3, .int .i64 1, .int .i64 0, .int .u8 0, .int .i64 0, .slice none 0 0, .slice none 0 0, .slice (some ⟨w.heap.size, 0, none⟩) 2 2, .slice none 0 0, .slice none 0 0, .slice none 0 0, .slice none 0 0, .slice none 0 0, .slice none 0 0, .int .i64 0] 34)).heap.size ((w.alloc (.cells #[.int .i64 17, .int .i64 9] 3)).alloc (.cells #[.int .u8 3, .int .i64 1, .int .i64 0, .int .u8 0, .int .i64 0, .slice none 0 0, .slice none 0 0, .slice (some ⟨w.heap.size, 0, none⟩) 2 2, .slice none 0 0, .slice none 0 0, .slice none 0 0, .slice none 0 0, .slice none 0 0, .slice none 0 0, .int .i64 0] 34)) W → w.heap.size + 1 < W.heap.size ∧ W.cell? ⟨w.heap.size + 1, 0, none⟩ = some (.int .u8 3) ∧ W.cell? ⟨w.heap.size + 1, 1, none⟩ = some (.int .i64 1) ∧ W.cell? ⟨w.heap.size + 1, 2, none⟩ = some (.int .i64 0) ∧ W.cell? ⟨w.heap.size + 1, 3, none⟩ = some (.int .u8 0) ∧ W.cell? ⟨w.heap.size + 1, 4, none⟩ = some (.int .i64 0) ∧ W.cell? ⟨w.heap.size + 1, 5, none⟩ = some (.slice none 0 0) ∧ W.cell? ⟨w.heap.size + 1, 6, none⟩ = some (.slice none 0 0) ∧ W.cell? ⟨w.heap.size + 1, 7, none⟩ = some (.slice (some ⟨w.heap.size, 0, none⟩) 2 2) ∧ W.cell? ⟨w.heap.size + 1, 8, none⟩ = some (.slice none 0 0) ∧ W.cell? ⟨w.heap.size + 1, 9, none⟩ = some (.slice none 0 0) ∧ W.cell? ⟨w.heap.size + 1, 10, none⟩ = some (.slice none 0 0) ∧ W.cell? ⟨w.heap.size + 1, 11, none⟩ = some (.slice none 0 0) ∧ W.cell? ⟨w.heap.size + 1, 12, none⟩ = some (.slice none 0 0) ∧ W.cell? ⟨w.heap.size + 1, 13, none⟩ = some (.slice none 0 0) ∧ W.cell? ⟨w.heap.size + 1, 14, none⟩ = some (.int .i64 0) := fun W hB => by
    have h := rboxT (w.alloc (.cells #[.int .i64 17, .int .i64 9] 3)) ruleA (svA w.heap.size) 34 hB
    rw [World.size_alloc w] at h
    exact h
  have B0 := Lib.hid (Below.next_alloc (Below.next_alloc (Below.refl _ w) (.cells #[.int .i64 17, .int .i64 9] 3)) (.cells #[.int .u8 3, .int .i64 1, .int .i64 0, .int .u8 0, .int .i64 0, .slice none 0 0, .slice none 0 0, .slice (some ⟨w.heap.size, 0, none⟩) 2 2, .slice none 0 0, .slice none 0 0, .slice none 0 0, .slice none 0 0, .slice none 0 0, .slice none 0 0, .int .i64 0] 34))
  replace A1 := Lib.hid A1
  replace A2 := Lib.hid A2
  replace A3 := Lib.hid A3
  replace A4 := Lib.hid A4
  replace A5 := Lib.hid A5
  replace BX := Lib.hid BX
  clear LA
  go_enter Try.func8, Try.ntmps8
  go_wp2_with (first
    | (go_at_call 12; (with_reducible refine (A1.out _ (Below.refl _ _)).mono ?_); rintro e w1 ⟨v1, rfl, hO1, hB1⟩; obtain ⟨g1, p1, rfl, hg1, hc1⟩ := OwnI.pos hO1 (by decide); have q1 := hc1 0 34200 rfl; have q2 := hc1 1 63000 rfl; clear hc1 hO1 A1; obtain ⟨y0, x0, x1, x2, x3, x4, x5, x6, x7, x8, x9, x10, x11, x12, x13, x14⟩ := BX.out w1 hB1; replace hB1 := Lib.hid hB1)
    | (go_at_call 15; ((with_reducible refine (A2.out _ hB1.out).mono ?_); rintro e w2 ⟨rfl, hB2⟩; replace hB2 := Lib.hid (Below.next hB1.out hB2); clear y0 x0 x1 x2 x3 x4 x5 x6 x7 x8 x9 x10 x11 x12 x13 x14; obtain ⟨y0, x0, x1, x2, x3, x4, x5, x6, x7, x8, x9, x10, x11, x12, x13, x14⟩ := BX.out w2 hB2.out;))
    | (go_at_call 9; (with_reducible refine (A3.out _ hB2.out).mono ?_); rintro e w3 ⟨rfl, hB3⟩; replace hB3 := Lib.hid (Below.next hB2.out hB3); clear y0 x0 x1 x2 x3 x4 x5 x6 x7 x8 x9 x10 x11 x12 x13 x14; obtain ⟨y0, x0, x1, x2, x3, x4, x5, x6, x7, x8, x9, x10, x11, x12, x13, x14⟩ := BX.out w3 hB3.out; clear A3)
    | (go_at_call 9; (with_reducible refine (A4.out _ hB3.out).mono ?_); rintro e w4 ⟨rfl, hB4⟩; replace hB4 := Lib.hid (Below.next hB3.out hB4); clear A4)
    | (go_at_call 9; (with_reducible refine (A5.out _).mono ?_); rintro e w5 ⟨rfl, hB5⟩; replace hB5 := Lib.hid (Below.next hB4.out hB5)))
  go_ret
  exact ⟨rfl, Below.next B0.out hB5.out⟩
end Go.Proofs.Ytndicgfafdhieaa.Tm
