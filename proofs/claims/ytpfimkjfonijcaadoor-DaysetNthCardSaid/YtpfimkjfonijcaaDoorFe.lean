/- The walk of the law DaysetEnds. -/
import Derived.Test.YtpfimkjfonijcaaDoorFc
import Derived.Test.YtpfimkjfonijcaaDoorFd
import Derived.Deep.RegionHeld3
namespace Go.Proofs.YtpfimkjfonijcaaDoor.Da
open Go.RowKit Ru Ut Cw Ra
def svM (b : Nat) (q : Nat) : Value := if q = 8 then .slice (some ⟨b, 0, none⟩) 1 1 else .slice none 0 0
def svY (b : Nat) (q : Nat) : Value := if q = 9 then .slice (some ⟨b, 0, none⟩) 1 1 else .slice none 0 0
theorem one_ints {W : World} {b : Nat} {x : Int} (hb : b < W.heap.size) (c : W.cell? ⟨b, 0, none⟩ = some (.int .i64 x)) : Ints W (.slice (some ⟨b, 0, none⟩) 1 1) [x] :=
  .inr ⟨by simp, b, 0, 1, rfl, hb, by simp, fun i hi => by
    obtain rfl : i = 0 := by simp at hi; omega
    exact c⟩
theorem wide_M {x : Int} (h : -1000 ≤ x ∧ x ≤ 1000) : Wide (rM x) := ⟨⟨q_cases (by simp [lst, rM]) (by simp [lst, rM]) (by simp [lst, rM]) (by simp [lst, rM]) (by simp [lst, rM]) (by simp [lst, rM]) (by simp [lst, rM]) (by simp [lst, rM]), by simp [rM]⟩, by simp [rM], q_cases (by simp [lst, rM]) (by simp [lst, rM]) (by simp [lst, rM]) (by simp only [lst, rM]; intro y hy; simp at hy; subst hy; exact WalkArith.wf_i64 (by omega)) (by simp [lst, rM]) (by simp [lst, rM]) (by simp [lst, rM]) (by simp [lst, rM])⟩
theorem wide_Y {x : Int} (h : -1000 ≤ x ∧ x ≤ 1000) : Wide (rY x) := ⟨⟨q_cases (by simp [lst, rY]) (by simp [lst, rY]) (by simp [lst, rY]) (by simp [lst, rY]) (by simp [lst, rY]) (by simp [lst, rY]) (by simp [lst, rY]) (by simp [lst, rY]), by simp [rY]⟩, by simp [rY], q_cases (by simp [lst, rY]) (by simp [lst, rY]) (by simp [lst, rY]) (by simp [lst, rY]) (by simp only [lst, rY]; intro y hy; simp at hy; subst hy; exact WalkArith.wf_i64 (by omega)) (by simp [lst, rY]) (by simp [lst, rY]) (by simp [lst, rY])⟩
theorem passM (W : World) (b : Nat) (x n : Int) (hT : Tab W) (hx : -1000 ≤ x ∧ x ≤ 1000) (hb : b < W.heap.size) (c : W.cell? ⟨b, 0, none⟩ = some (.int .i64 x)) :
    Calls Tryd.prog 9 #[.agg #[.int .u8 5, .int .i64 1, .int .i64 0, .int .u8 0, .int .i64 0, .slice none 0 0, .slice none 0 0, .slice none 0 0, .slice none 0 0, .slice (some ⟨b, 0, none⟩) 1 1, .slice none 0 0, .slice none 0 0, .slice none 0 0, .slice none 0 0, .int .i64 0], .int .i64 0, .int .i64 n] W fun e w' => e = .returned (.bool (Dy.passes (rM x) 0 n)) ∧ Below W.heap.size W w' :=
  passes_any W (rM x) (svM b) 0 n hT ⟨q_cases (nilI W) (nilI W) (nilI W) (one_ints hb c) (nilI W) (nilI W) (nilI W) (nilI W), nilD W⟩ (wide_M hx) (by decide)
theorem passY (W : World) (b : Nat) (x n : Int) (hT : Tab W) (hx : -1000 ≤ x ∧ x ≤ 1000) (hb : b < W.heap.size) (c : W.cell? ⟨b, 0, none⟩ = some (.int .i64 x)) :
    Calls Tryd.prog 9 #[.agg #[.int .u8 6, .int .i64 1, .int .i64 0, .int .u8 0, .int .i64 0, .slice none 0 0, .slice none 0 0, .slice none 0 0, .slice none 0 0, .slice none 0 0, .slice (some ⟨b, 0, none⟩) 1 1, .slice none 0 0, .slice none 0 0, .slice none 0 0, .int .i64 0], .int .i64 0, .int .i64 n] W fun e w' => e = .returned (.bool (Dy.passes (rY x) 0 n)) ∧ Below W.heap.size W w' :=
  passes_any W (rY x) (svY b) 0 n hT ⟨q_cases (nilI W) (nilI W) (nilI W) (nilI W) (one_ints hb c) (nilI W) (nilI W) (nilI W), nilD W⟩ (wide_Y hx) (by decide)
end Go.Proofs.YtpfimkjfonijcaaDoor.Da
