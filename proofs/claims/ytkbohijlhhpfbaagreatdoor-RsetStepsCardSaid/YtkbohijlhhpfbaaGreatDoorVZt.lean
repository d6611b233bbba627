/- A row of integers, sorted and compacted by the library. -/
import Derived.Test.YtkbohijlhhpfbaaGreatDoorVTe
import Derived.Test.YtkbohijlhhpfbaaGreatDoorVTj
import Derived.Test.YtkbohijlhhpfbaaGreatDoorVZk
import Derived.Test.YtkbohijlhhpfbaaGreatDoorVZs
import Derived.Lib.SlicesCompact
namespace Go.Proofs.YtkbohijlhhpfbaaGreatDoor.Rs
open Go.RowKit Ru Ut Ra Tm Go.Sort Go.Lib
def Rise (d : Array Int) (n : Nat) : Prop := ∀ i j, i ≤ j → j < n → d[i]! ≤ d[j]!
theorem comp_inv {d : Array Int} {n : Nat} (h : Rise d n) : ∀ m, m ≤ n → (compactUpTo d m).Pairwise (fun a b => a < b) ∧ (∀ x, x ∈ compactUpTo d m ↔ ∃ j, j < m ∧ d[j]! = x) ∧ (compactUpTo d m).length ≤ m
 | 0, _ => ⟨by simp [compactUpTo], fun x => by simp [compactUpTo], by simp [compactUpTo]⟩
 | m + 1, hm => by
  obtain ⟨h1, h2, h3⟩ := comp_inv h m (by omega)
  rw [compactUpTo_succ]
  by_cases hk : keeps d m = true
  ·rw [if_pos hk]
   refine ⟨?_, fun x => ?_, by rw [List.length_append]; simp; omega⟩
   ·rw [List.pairwise_append]
    refine ⟨h1, List.pairwise_singleton .., fun a ha b hb => ?_⟩
    rw [List.mem_singleton] at hb
    subst hb
    obtain ⟨j, hj, rfl⟩ := (h2 a).1 ha
    have hne : d[m]! ≠ d[m - 1]! := by
     unfold keeps at hk
     rw [decide_eq_true_iff] at hk
     rcases hk with hk | hk
     ·omega
     ·exact hk
    have ha1 := h j (m - 1) (by omega) (by omega)
    have ha2 := h (m - 1) m (by omega) (by omega)
    exact Int.lt_of_le_of_lt ha1 (Int.lt_iff_le_and_ne.2 ⟨ha2, fun e => hne e.symm⟩)
   ·rw [List.mem_append, List.mem_singleton, h2]
    constructor
    ·rintro (⟨j, hj, e⟩ | rfl)
     ·exact ⟨j, by omega, e⟩
     ·exact ⟨m, by omega, rfl⟩
    ·rintro ⟨j, hj, e⟩
     rcases Nat.lt_succ_iff_lt_or_eq.1 hj with hj | rfl
     ·exact .inl ⟨j, hj, e⟩
     ·exact .inr e.symm
  ·rw [if_neg hk, List.append_nil]
   refine ⟨h1, fun x => ?_, by omega⟩
   rw [h2]
   constructor
   ·rintro ⟨j, hj, e⟩; exact ⟨j, by omega, e⟩
   ·rintro ⟨j, hj, e⟩
    rcases Nat.lt_succ_iff_lt_or_eq.1 hj with hj | rfl
    ·exact ⟨j, hj, e⟩
    ·unfold keeps at hk
     rw [decide_eq_true_iff] at hk
     have hj0 : j ≠ 0 := fun e => hk (.inl e)
     have he : d[j]! = d[j - 1]! := Decidable.byContradiction fun hne => hk (.inr hne)
     exact ⟨j - 1, by omega, by rw [← he]; exact e⟩
theorem compact_sorted {zs : List Int} (h : zs.Pairwise fun a b => a ≤ b) : (compact zs).Pairwise (fun a b => a < b) ∧ (∀ x, x ∈ compact zs ↔ x ∈ zs) ∧ (compact zs).length ≤ zs.length := by
 have hr : Rise zs.toArray zs.length := fun i j hij hj => by
  rw [getElem!_pos zs.toArray i (by simp; omega), getElem!_pos zs.toArray j (by simpa using hj)]
  simp only [List.getElem_toArray]
  rcases Nat.lt_or_eq_of_le hij with h1 | rfl
  ·exact List.pairwise_iff_getElem.1 h i j (by omega) hj h1
  ·exact Int.le_refl _
 obtain ⟨h1, h2, h3⟩ := comp_inv hr zs.length (Nat.le_refl _)
 refine ⟨h1, fun x => (h2 x).trans ?_, h3⟩
 constructor
 ·rintro ⟨j, hj, e⟩
  rw [getElem!_pos zs.toArray j (by simpa using hj)] at e
  rw [← e]; simp
 ·intro hx
  obtain ⟨j, hj, e⟩ := List.mem_iff_getElem.1 hx
  exact ⟨j, hj, by rw [getElem!_pos zs.toArray j (by simpa using hj)]; simpa using e⟩
theorem sortI_big {w : World} {B : Nat} {v : Value} {l : List Int} (h : OwnI w B v l) (hB : B ≤ w.heap.size) (hn : l.length ≤ 1000000) : Calls Tryz.prog 43 #[v] w fun e w' => e = .returned (.tuple #[]) ∧ OwnI w' B v (sortI l) ∧ Below B w w' := by
 by_cases h0 : 0 < l.length
 ·obtain ⟨g, cap, cur, rfl, hb, hg, hc, hm, hs, hH, hlt⟩ := Tm.ownI_block h h0
  refine (Tryz.slices_Sort_int g 0 cap l w hH hlt (by omega)).mono fun e w' ⟨he, n, os, hw⟩ => ?_
  subst hw
  have h := ownsRow_sortedI (n := n) (os := os) (ss := l) (ts := sortI l) (sortI_length l) hb hg hc hm hs
  refine ⟨he, ?_, (Below.refl B w).grown (grownBy_sortedI _) hB fun k hk => by cases hk; exact hb⟩
  unfold OwnI
  rw [sortI_length]
  exact h
 ·obtain rfl : l = [] := List.eq_nil_of_length_eq_zero (by omega)
  obtain ⟨a, c, rfl⟩ := h.slice
  refine (Tryz.slices_Sort_int_none a c w).mono fun e w' ⟨he, hw⟩ => ?_
  subst hw
  exact ⟨he, by simpa [sortI] using h, Below.refl _ _⟩
theorem compI_any {w : World} {B : Nat} {v : Value} {l : List Int} (h : OwnI w B v l) (hB : B ≤ w.heap.size) (hn : l.length ≤ 1000000) (hcl : (Lib.compact l).length ≤ l.length) : Calls Tryz.prog 50 #[v] w fun e w' => ∃ u, e = .returned u ∧ OwnI w' B u (Lib.compact l) ∧ Below B w w' := by
 by_cases h0 : 0 < l.length
 ·obtain ⟨g, cap, cur, rfl, hb, hg, hc, hm, hs, hH, hlt⟩ := Tm.ownI_block h h0
  refine (Tryz.slices_Compact_int g 0 cap l w hH (by omega) hc).mono fun e w' ⟨he, n, hw⟩ => ?_
  subst hw
  have hT : (Lib.compact l ++ List.replicate (l.length - (Lib.compact l).length) (0 : Int)).length = l.length := by rw [List.length_append, List.length_replicate]; omega
  have h2 := ownsRow_sortedI (n := n) (os := #[]) (ss := l) (ts := Lib.compact l ++ List.replicate (l.length - (Lib.compact l).length) 0) hT hb hg hc hm hs
  rw [grow_empty] at h2
  have h3 := ownsRow_cut h2 hcl
  rw [List.map_append, List.take_left' (by rw [List.length_map])] at h3
  have h4 := (Below.refl B w).grown (grownBy_sortedI (w := w) (g := g) (n := n) (os := #[]) (Lib.compact l ++ List.replicate (l.length - (Lib.compact l).length) (0 : Int)).toArray) hB fun k hk => by cases hk; exact hb
  rw [grow_empty] at h4
  exact ⟨_, he, h3, h4⟩
 ·obtain rfl : l = [] := List.eq_nil_of_length_eq_zero (by omega)
  obtain ⟨a, c, rfl⟩ := h.slice
  refine (Tryz.slices_Compact_int_empty a c w).mono fun e w' ⟨he, hw⟩ => ?_
  subst hw
  exact ⟨_, he, by simpa [Lib.compact, Lib.compactUpTo] using h, Below.refl _ _⟩
theorem sortI_up (l : List Int) : (sortI l).Pairwise (fun a b => a ≤ b) := by
 have tr : ∀ a b c : Int, decide (a ≤ b) = true → decide (b ≤ c) = true → decide (a ≤ c) = true := fun a b c h1 h2 => by simp only [decide_eq_true_eq] at *; omega
 have to : ∀ a b : Int, (decide (a ≤ b) || decide (b ≤ a)) = true := fun a b => by simp only [Bool.or_eq_true, decide_eq_true_eq]; omega
 exact (List.pairwise_mergeSort tr to l).imp fun h => by simpa using h
theorem comp_spec (l : List Int) : (Lib.compact (sortI l)).Pairwise (· < ·) ∧ (∀ x, x ∈ Lib.compact (sortI l) ↔ x ∈ l) ∧ (Lib.compact (sortI l)).length ≤ (sortI l).length := by
 obtain ⟨h1, h2, h3⟩ := compact_sorted (sortI_up l)
 exact ⟨h1, fun x => (h2 x).trans sortI_mem, h3⟩
end Go.Proofs.YtkbohijlhhpfbaaGreatDoor.Rs
