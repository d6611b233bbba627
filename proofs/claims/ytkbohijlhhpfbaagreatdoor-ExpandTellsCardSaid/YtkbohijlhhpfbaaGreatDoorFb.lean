import Derived.Test.YtkbohijlhhpfbaaGreatDoorXa
import Derived.Test.YtkbohijlhhpfbaaGreatDoorDk
import Derived.Test.YtkbohijlhhpfbaaGreatDoorLc
/- What the rules of awake let pass, in plain lists and integers. -/
namespace Go.Proofs.YtkbohijlhhpfbaaGreatDoor.Da
open Ru
def ra1 : R := ⟨5, 1, 0, 0, 0, [], [], [], [(-1, 4)], [], [], [], [], [], 0⟩
def ra2 : R := ⟨5, 1, 0, 0, 0, [], [], [], [], [], [], [], [], [], 0⟩
def ra0 : R := ⟨0, 0, 0, 0, 0, [], [], [], [], [], [], [], [], [], 0⟩
def ra3 : R := ⟨3, 1, 0, 0, 0, [], [], [], [], [], [], [], [], [], 0⟩
theorem ra1_of : Dy.daysOf ra1 0 738885 738916 = [738910] := by decide +kernel
theorem ra2_of : Dy.daysOf ra2 63842169600 738885 739251 = [738914, 738974, 739005, 739035, 739066, 739096, 739127, 739158, 739188, 739219, 739249] := by decide +kernel
theorem ra_nth : (Dy.about 738910).n0 = 4 ∧ (Dy.about 738910).n1 = -1 ∧ (Dy.about 738910).n2 = 4 ∧ (Dy.about 738910).n3 = -49 := by decide +kernel
theorem ra0_passes : Dy.passes ra0 0 0 = false := by decide +kernel
theorem ra3_passes : Dy.passes ra3 0 5 = true := by decide +kernel
end Go.Proofs.YtkbohijlhhpfbaaGreatDoor.Da

/- The walk through errandlaw23's awake. -/
namespace Go.Proofs.YtkbohijlhhpfbaaGreatDoor.Da
open Go.RowKit Ru Ut Cw Ra
theorem OwnI.pos {w : World} {B : Nat} {v : Value} {l : List Int} (h : OwnI w B v l) (h0 : 0 < l.length) : ∃ b cap, v = .slice (some ⟨b, 0, none⟩) l.length cap ∧ b < w.heap.size ∧ ∀ i z, l[i]? = some z → w.cell? ⟨b, i, none⟩ = some (.int .i64 z) := by
  obtain ⟨g, cap, rfl, hb, hg, hc, _, hcell⟩ := ownsRow_pos h h0
  exact ⟨g, cap, rfl, hg, fun i z hz => hcell i _ (by unfold ic; rw [List.getElem?_map, hz]; rfl)⟩
def svN (_ : Nat) : Value := .slice none 0 0
def svD (b : Nat) (q : Nat) : Value := if q = 7 then .slice (some ⟨b, 0, none⟩) 1 1 else .slice none 0 0
theorem nilI (W : World) : Ints W (.slice none 0 0) [] := .inl ⟨rfl, none, 0, rfl, fun _ => rfl⟩
theorem nilD (W : World) : Days W (.slice none 0 0) [] := .inl ⟨rfl, none, 0, rfl, fun _ => rfl⟩
theorem q_cases {P : Nat → Prop} (h4 : P 4) (h5 : P 5) (h6 : P 6) (h8 : P 8) (h9 : P 9) (h10 : P 10) (h11 : P 11) (h12 : P 12) : ∀ q, 4 ≤ q → q ≤ 12 → q ≠ 7 → P q := fun q a b c => by
  have hc : q = 4 ∨ q = 5 ∨ q = 6 ∨ q = 8 ∨ q = 9 ∨ q = 10 ∨ q = 11 ∨ q = 12 := by omega
  rcases hc with rfl | rfl | rfl | rfl | rfl | rfl | rfl | rfl <;> assumption
theorem wide_1 : Wide ra1 := ⟨⟨q_cases (by decide) (by decide) (by decide) (by decide) (by decide) (by decide) (by decide) (by decide), by decide⟩, by decide, q_cases (by simp [lst, ra1]) (by simp [lst, ra1]) (by simp [lst, ra1]) (by simp [lst, ra1]) (by simp [lst, ra1]) (by simp [lst, ra1]) (by simp [lst, ra1]) (by simp [lst, ra1])⟩
theorem wide_2 : Wide ra2 := ⟨⟨q_cases (by decide) (by decide) (by decide) (by decide) (by decide) (by decide) (by decide) (by decide), by decide⟩, by decide, q_cases (by simp [lst, ra2]) (by simp [lst, ra2]) (by simp [lst, ra2]) (by simp [lst, ra2]) (by simp [lst, ra2]) (by simp [lst, ra2]) (by simp [lst, ra2]) (by simp [lst, ra2])⟩
theorem wide_0 : Wide ra0 := ⟨⟨q_cases (by decide) (by decide) (by decide) (by decide) (by decide) (by decide) (by decide) (by decide), by decide⟩, by decide, q_cases (by simp [lst, ra0]) (by simp [lst, ra0]) (by simp [lst, ra0]) (by simp [lst, ra0]) (by simp [lst, ra0]) (by simp [lst, ra0]) (by simp [lst, ra0]) (by simp [lst, ra0])⟩
theorem wide_3 : Wide ra3 := ⟨⟨q_cases (by decide) (by decide) (by decide) (by decide) (by decide) (by decide) (by decide) (by decide), by decide⟩, by decide, q_cases (by simp [lst, ra3]) (by simp [lst, ra3]) (by simp [lst, ra3]) (by simp [lst, ra3]) (by simp [lst, ra3]) (by simp [lst, ra3]) (by simp [lst, ra3]) (by simp [lst, ra3])⟩
theorem listsN (W : World) (r : R) (h : ∀ q, 4 ≤ q → q ≤ 12 → q ≠ 7 → lst r q = []) (hd : r.day = []) : Lists W r svN := ⟨fun q a b c => by rw [h q a b c]; exact nilI W, by rw [hd]; exact nilD W⟩
theorem aw_of1 (W : World) (b : Nat) (hT : Tab W) (hb : b < W.heap.size) (c0 : W.cell? ⟨b, 0, none⟩ = some (.int .i64 (-1))) (c1 : W.cell? ⟨b, 1, none⟩ = some (.int .i64 4)) :
    Calls Tryz.prog 69 #[.agg #[.int .u8 5, .int .i64 1, .int .i64 0, .int .u8 0, .int .i64 0, .slice none 0 0, .slice none 0 0, .slice none 0 0, .slice (some ⟨b, 0, none⟩) 1 1, .slice none 0 0, .slice none 0 0, .slice none 0 0, .slice none 0 0, .slice none 0 0, .int .i64 0], .int .i64 0, .int .i64 738885, .int .i64 738916] W (Gives W [738910]) := by
  have h := of_any W ra1 (svD b) 0 738885 738916 hT ⟨q_cases (nilI W) (nilI W) (nilI W) (nilI W) (nilI W) (nilI W) (nilI W) (nilI W), .inr ⟨by decide, b, 0, 1, rfl, hb, by decide, fun i hi => by
    obtain rfl : i = 0 := by simp [ra1] at hi; omega
    exact ⟨c0, c1⟩⟩⟩ wide_1 (by decide) (by decide)
  rw [ra1_of] at h
  exact h
theorem aw_of2 (W : World) (hT : Tab W) :
    Calls Tryz.prog 69 #[.agg #[.int .u8 5, .int .i64 1, .int .i64 0, .int .u8 0, .int .i64 0, .slice none 0 0, .slice none 0 0, .slice none 0 0, .slice none 0 0, .slice none 0 0, .slice none 0 0, .slice none 0 0, .slice none 0 0, .slice none 0 0, .int .i64 0], .int .i64 63842169600, .int .i64 738885, .int .i64 739251] W (Gives W [738914, 738974, 739005, 739035, 739066, 739096, 739127, 739158, 739188, 739219, 739249]) := by
  have h := of_any W ra2 svN 63842169600 738885 739251 hT (listsN W ra2 (q_cases rfl rfl rfl rfl rfl rfl rfl rfl) rfl) wide_2 (by decide) (by decide)
  rw [ra2_of] at h
  exact h
end Go.Proofs.YtkbohijlhhpfbaaGreatDoor.Da

