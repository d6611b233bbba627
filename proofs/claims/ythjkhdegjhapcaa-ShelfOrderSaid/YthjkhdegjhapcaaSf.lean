/- The walks through both Sorted. -/
import Derived.Test.YthjkhdegjhapcaaSe
import Derived.Test.YthjkhdegjhapcaaBase
namespace Go.Proofs.Ythjkhdegjhapcaa.Sa
open Go.RowKit Sp
/-- do the keys rise? -/
def sortedB (es : List Ent) : Bool := (List.range (es.length - 1)).all fun j => lt (es.getD j default).1 (es.getD (j + 1) default).1
theorem sortedB_true {es : List Ent} (h : ∀ j (hj : j + 1 < es.length), lt es[j].1 es[j + 1].1 = true) : sortedB es = true := by
  unfold sortedB
  rw [List.all_eq_true]
  intro j hj
  have hj : j + 1 < es.length := by have := List.mem_range.1 hj; omega
  have e1 : es.getD j default = es[j] := by simp [List.getD, show j < es.length by omega]
  have e2 : es.getD (j + 1) default = es[j + 1] := by simp [List.getD, hj]
  rw [e1, e2]; exact h j hj
theorem sortedB_false {es : List Ent} {j : Nat} (hj : j + 1 < es.length) (h : lt es[j].1 es[j + 1].1 = false) : sortedB es = false := by
  unfold sortedB
  rw [List.all_eq_false]
  refine ⟨j, List.mem_range.2 (by omega), ?_⟩
  have e1 : es.getD j default = es[j] := by simp [List.getD, show j < es.length by omega]
  have e2 : es.getD (j + 1) default = es[j + 1] := by simp [List.getD, hj]
  rw [e1, e2, h]; simp
theorem ret_b {a b : Bool} (h : a = b) : Ending.returned (.bool a) = .returned (.bool b) := by rw [h]
set_option maxHeartbeats 1000000 in
theorem sorted_any {v : Value} {es : List Ent} {w : World} (hE : Ents w v es) (hn : es.length ≤ 1000000) :
    Calls Try.prog 14 #[v] w fun e w' => e = .returned (.bool (sortedB es)) ∧ Below w.heap.size w w' := by
  rcases hE with ⟨rfl, a, cap, rfl, _⟩ | ⟨h0, b, o, cap, rfl, hlt, hcap, hcell⟩
  · go_enter Try.func14, Try.ntmps14
    go_wp2
    go_rounds 1
    go_ret
    exact ⟨rfl, Below.refl _ _⟩
  · have HC := Lib.hid hcell
    clear hcell
    go_enter Try.func14, Try.ntmps14
    go_wp2
    go_loopw [6] (fun i wr => ∃ k : Nat, k ≤ es.length ∧ i = .int .i64 k ∧ (∀ j (hj : j + 1 < es.length), j + 1 < k → lt es[j].1 es[j + 1].1 = true) ∧ Below w.heap.size w wr) (fun i _ => es.length - (intOf i).toNat)
    case atStart => exact ⟨0, by omega, rfl, fun j hj h => by omega, Below.refl _ _⟩
    case round =>
      obtain ⟨k, k1, rfl, hr, hB⟩ := hrel
      have HR := Lib.hid hr
      clear hr
      by_cases hk : k < es.length
      · have c1 := (hB.cell (p := ⟨b, o + k * 2, none⟩) hlt).trans (HC.out k hk).1
        have i2 : (k : Int) < (es.length : Int) := by omega
        have i3 : (0 : Int) ≤ (k : Int) := by omega
        by_cases hz : k = 0
        · have hd : decide (0 < k) = false := by rw [decide_eq_false_iff_not]; omega
          have Hz := Lib.hid hz
          clear hz
          go_wp2
          go_quiet (fail)
          go_wp2
          go_roundw
          case rel => exact ⟨k + 1, by omega, by go_num, fun j hj h => by have := Hz.out; omega, Base.below_drewN hB _⟩
          case measure => simp [intOf]; omega
        · have c2 := (hB.cell (p := ⟨b, o + (k - 1) * 2, none⟩) hlt).trans (HC.out (k - 1) (by omega)).1
          have i0 : decide (0 < k) = true := by rw [decide_eq_true_iff]; omega
          have i4 : (0 : Int) ≤ (k : Int) - 1 := by omega
          have i5 : (k : Int) - 1 < (es.length : Int) := by omega
          have ek : k - 1 + 1 = k := by omega
          have EK := Lib.hid ek
          clear ek
          cases hl : Op.bytesLess es[k - 1].1.toList es[k].1.toList
          · have hs := Lib.hid (sortedB_false (es := es) (j := k - 1) (by omega) (by have := EK.out; simp only [this]; exact hl))
            have i6 : IntKind.i64.wrap ((k : Int) - 1) = (k : Int) - 1 := IntWalk.i64_in _ (by omega)
            have i7 : ((k : Int) - 1).toNat = k - 1 := by omega
            go_wp2
            go_quiet (fail)
            clear i6 i7
            go_wp2
            go_ret
            exact ⟨ret_b hs.out.symm, Base.below_drewN hB _⟩
          · have Hl := Lib.hid hl
            have i6 : IntKind.i64.wrap ((k : Int) - 1) = (k : Int) - 1 := IntWalk.i64_in _ (by omega)
            have i7 : ((k : Int) - 1).toNat = k - 1 := by omega
            go_wp2
            go_quiet (fail)
            clear i6 i7
            go_wp2
            go_roundw
            case rel =>
              refine ⟨k + 1, by omega, by go_num, fun j hj h => ?_, Base.below_drewN hB _⟩
              by_cases hjk : j + 1 = k
              · have : j = k - 1 := by omega
                subst this
                have := EK.out
                simp only [this]
                exact Hl.out
              · exact HR.out j hj (by omega)
            case measure => simp [intOf]; omega
      · have hs := Lib.hid (sortedB_true (es := es) fun j hj => HR.out j hj (by omega))
        go_wp2
        go_ret
        exact ⟨ret_b hs.out.symm, hB⟩
end Go.Proofs.Ythjkhdegjhapcaa.Sa
