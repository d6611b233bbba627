/- What sorting and compacting a list of texts makes; the order of texts; plain lists. -/
import Derived.Sort.Walk0
import Derived.Lib.SlicesCompact
import Derived.Laws.Strings
namespace Go.Proofs.Ythelkkbjflohgaa.Gr
open Go.Lib
/-- which of two texts stands ahead -/
def ltN (a b : ByteArray) : Bool := Op.bytesLess a.toList b.toList
theorem ltN_iff {a b : ByteArray} : ltN a b = true ↔ a.data.toList < b.data.toList := by
  unfold ltN
  rw [bytesLess_eq, decide_eq_true_iff, ByteArray.toList_eq, ByteArray.toList_eq]
theorem ltN_irrefl (a : ByteArray) : ltN a a = false := by
  cases h : ltN a a
  · rfl
  · exact (List.lt_irrefl _ (ltN_iff.1 h)).elim
theorem ltN_asymm {a b : ByteArray} (h : ltN a b = true) (k : ltN b a = true) : False := List.lt_asymm (ltN_iff.1 h) (ltN_iff.1 k)
theorem ltN_trans {a b c : ByteArray} (h : ltN a b = true) (k : ltN b c = true) : ltN a c = true := ltN_iff.2 (List.lt_trans (ltN_iff.1 h) (ltN_iff.1 k))
theorem lt_of_le_ne {a b : List UInt8} (h : a ≤ b) (hne : a ≠ b) : a < b := Decidable.byContradiction fun k => hne (List.le_antisymm h (List.not_lt.1 k))
theorem ltN_tri {a b : ByteArray} (h : ltN a b = false) (hne : ¬ a = b) : ltN b a = true := by
  rw [ltN_iff]
  have h1 : ¬ a.data.toList < b.data.toList := fun k => by rw [ltN_iff.2 k] at h; cases h
  have h2 : b.data.toList ≤ a.data.toList := List.not_lt.1 h1
  exact (lt_of_le_ne h2 (fun e => hne (ByteArray.ext (Array.toList_inj.mp e.symm))))
def Rise (d : Array (List UInt8)) (n : Nat) : Prop := ∀ i j, i ≤ j → j < n → d[i]! ≤ d[j]!
theorem comp_inv {d : Array (List UInt8)} {n : Nat} (h : Rise d n) : ∀ m, m ≤ n → (compactUpTo d m).Pairwise (fun a b => a < b) ∧ (∀ x, x ∈ compactUpTo d m ↔ ∃ j, j < m ∧ d[j]! = x) ∧ (compactUpTo d m).length ≤ m
  | 0, _ => ⟨by simp [compactUpTo], fun x => by simp [compactUpTo], by simp [compactUpTo]⟩
  | m + 1, hm => by
    obtain ⟨h1, h2, h3⟩ := comp_inv h m (by omega)
    rw [compactUpTo_succ]
    by_cases hk : keeps d m = true
    · rw [if_pos hk]
      refine ⟨?_, fun x => ?_, by rw [List.length_append]; simp; omega⟩
      · rw [List.pairwise_append]
        refine ⟨h1, List.pairwise_singleton .., fun a ha b hb => ?_⟩
        rw [List.mem_singleton] at hb
        subst hb
        obtain ⟨j, hj, rfl⟩ := (h2 a).1 ha
        have hne : d[m]! ≠ d[m - 1]! := by
          unfold keeps at hk
          rw [decide_eq_true_iff] at hk
          rcases hk with hk | hk
          · omega
          · exact hk
        have ha1 := h j (m - 1) (by omega) (by omega)
        have ha2 := h (m - 1) m (by omega) (by omega)
        exact List.lt_of_le_of_lt ha1 (lt_of_le_ne ha2 (fun e => hne e.symm))
      · rw [List.mem_append, List.mem_singleton, h2]
        constructor
        · rintro (⟨j, hj, e⟩ | rfl)
          · exact ⟨j, by omega, e⟩
          · exact ⟨m, by omega, rfl⟩
        · rintro ⟨j, hj, e⟩
          rcases Nat.lt_succ_iff_lt_or_eq.1 hj with hj | rfl
          · exact .inl ⟨j, hj, e⟩
          · exact .inr e.symm
    · rw [if_neg hk, List.append_nil]
      refine ⟨h1, fun x => ?_, by omega⟩
      rw [h2]
      constructor
      · rintro ⟨j, hj, e⟩; exact ⟨j, by omega, e⟩
      · rintro ⟨j, hj, e⟩
        rcases Nat.lt_succ_iff_lt_or_eq.1 hj with hj | rfl
        · exact ⟨j, hj, e⟩
        · unfold keeps at hk
          rw [decide_eq_true_iff] at hk
          have hj0 : j ≠ 0 := fun e => hk (.inl e)
          have he : d[j]! = d[j - 1]! := Decidable.byContradiction fun hne => hk (.inr hne)
          exact ⟨j - 1, by omega, by rw [← he]; exact e⟩
theorem compact_sorted {zs : List (List UInt8)} (h : zs.Pairwise fun a b => a ≤ b) : (compact zs).Pairwise (fun a b => a < b) ∧ (∀ x, x ∈ compact zs ↔ x ∈ zs) ∧ (compact zs).length ≤ zs.length := by
  have hr : Rise zs.toArray zs.length := fun i j hij hj => by
    rw [getElem!_pos zs.toArray i (by simp; omega), getElem!_pos zs.toArray j (by simpa using hj)]
    simp only [List.getElem_toArray]
    rcases Nat.lt_or_eq_of_le hij with h1 | rfl
    · exact List.pairwise_iff_getElem.1 h i j (by omega) hj h1
    · exact List.le_refl _
  obtain ⟨h1, h2, h3⟩ := comp_inv hr zs.length (Nat.le_refl _)
  refine ⟨h1, fun x => (h2 x).trans ?_, h3⟩
  constructor
  · rintro ⟨j, hj, e⟩
    rw [getElem!_pos zs.toArray j (by simpa using hj)] at e
    rw [← e]; simp
  · intro hx
    obtain ⟨j, hj, e⟩ := List.mem_iff_getElem.1 hx
    exact ⟨j, hj, by rw [getElem!_pos zs.toArray j (by simpa using hj)]; simpa using e⟩
theorem sort_sorted (zs : List (List UInt8)) : (zs.mergeSort fun x y => decide (x ≤ y)).Pairwise (fun a b => a ≤ b) := by
  have tr : ∀ a b c : List UInt8, decide (a ≤ b) = true → decide (b ≤ c) = true → decide (a ≤ c) = true := fun a b c h1 h2 => by simp only [decide_eq_true_eq] at *; exact List.le_trans h1 h2
  have to : ∀ a b : List UInt8, (decide (a ≤ b) || decide (b ≤ a)) = true := fun a b => by simp only [Bool.or_eq_true, decide_eq_true_eq]; exact List.le_total a b
  exact (List.pairwise_mergeSort tr to zs).imp fun h => by simpa using h
end Go.Proofs.Ythelkkbjflohgaa.Gr
