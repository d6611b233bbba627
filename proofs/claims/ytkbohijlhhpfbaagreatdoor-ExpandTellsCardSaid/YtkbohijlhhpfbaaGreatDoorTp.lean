/- The seconds of a day by their hours, minutes and seconds: the plain law. -/
import Derived.Test.YtkbohijlhhpfbaaGreatDoorTh
namespace Go.Proofs.YtkbohijlhhpfbaaGreatDoor.Tm
open Ru
theorem firstNZ_zero : ∀ {l : List Int}, firstNZ l = 0 → ∀ x ∈ l, x = 0
  | [], _, x, hx => by cases hx
  | y :: l, h, x, hx => by
    unfold firstNZ at h
    by_cases hy : y = 0
    · rw [if_pos hy] at h
      rcases List.mem_cons.1 hx with rfl | hx
      · exact hy
      · exact firstNZ_zero h x hx
    · rw [if_neg hy] at h; exact (hy h).elim
theorem err_zero {r : R} (h : errs r = 0) (q : Nat) (h4 : 4 ≤ q) (h12 : q ≤ 12) : err r q = 0 := by
  have hc : q = 4 ∨ q = 5 ∨ q = 6 ∨ q = 7 ∨ q = 8 ∨ q = 9 ∨ q = 10 ∨ q = 11 ∨ q = 12 := by omega
  refine firstNZ_zero h _ ?_
  rcases hc with rfl | rfl | rfl | rfl | rfl | rfl | rfl | rfl | rfl <;> simp
theorem chk_errs {r : R} (h : chkR r = 0) : errs r = 0 := by
  unfold chkR at h
  split at h
  · omega
  · split at h
    · omega
    · rename_i h2; exact Classical.not_not.1 h2
theorem wrong_zero {α : Type} [DecidableEq α] {p : α → Bool} {l : List α} (h : wrong p l = 0) : l.length ≤ 12 ∧ (∀ x ∈ l, p x = false) ∧ l.Nodup := by
  unfold wrong at h
  split at h
  · cases h
  · rename_i h1
    split at h
    · cases h
    · rename_i h2
      split at h
      · rename_i h3
        refine ⟨by omega, fun x hx => ?_, h3⟩
        cases hp : p x
        · rfl
        · exact (h2 (List.any_eq_true.2 ⟨x, hx, hp⟩)).elim
      · cases h
theorem bad_in {a b x : Int} (h : bad a b false x = false) : a ≤ x ∧ x ≤ b := by
  unfold bad at h
  simp only [Bool.or_eq_false_iff, decide_eq_false_iff_not, Bool.not_false, Bool.and_true] at h
  obtain ⟨-, h2, h3, h4⟩ := h
  unfold absI at h2 h3
  rw [if_neg h4] at h2 h3
  omega
/-- what is so of a list of hours, minutes or seconds -/
def Fine (l : List Int) (n : Nat) : Prop := l.length ≤ 12 ∧ (∀ x ∈ l, 0 ≤ x ∧ x < n) ∧ l.Nodup
theorem fine_of {r : R} (hc : chkR r = 0) : Fine r.hour 24 ∧ Fine r.min 60 ∧ Fine r.sec 60 := by
  have e := chk_errs hc
  have e6 := wrong_zero (show wrong (bad 0 23 false) r.hour = 0 from err_zero e 6 (by decide) (by decide))
  have e5 := wrong_zero (show wrong (bad 0 59 false) r.min = 0 from err_zero e 5 (by decide) (by decide))
  have e4 := wrong_zero (show wrong (bad 0 59 false) r.sec = 0 from err_zero e 4 (by decide) (by decide))
  refine ⟨⟨e6.1, fun x hx => ?_, e6.2.2⟩, ⟨e5.1, fun x hx => ?_, e5.2.2⟩, ⟨e4.1, fun x hx => ?_, e4.2.2⟩⟩
  · have := bad_in (e6.2.1 x hx); omega
  · have := bad_in (e5.2.1 x hx); omega
  · have := bad_in (e4.2.1 x hx); omega
/-- two rising lists of the same members are one -/
theorem rise_ext : ∀ {l m : List Int}, l.Pairwise (· < ·) → m.Pairwise (· < ·) → (∀ x, x ∈ l ↔ x ∈ m) → l = m
  | [], [], _, _, _ => rfl
  | [], b :: m, _, _, h => by have := (h b).2 (List.mem_cons_self ..); cases this
  | a :: l, [], _, _, h => by have := (h a).1 (List.mem_cons_self ..); cases this
  | a :: l, b :: m, hl, hm, h => by
    obtain ⟨ha, hl'⟩ := List.pairwise_cons.1 hl
    obtain ⟨hb, hm'⟩ := List.pairwise_cons.1 hm
    have hab : a = b := by
      rcases List.mem_cons.1 ((h a).1 (List.mem_cons_self ..)) with h1 | h1
      · exact h1
      · rcases List.mem_cons.1 ((h b).2 (List.mem_cons_self ..)) with h2 | h2
        · exact h2.symm
        · have := ha b h2; have := hb a h1; omega
    subst hab
    rw [rise_ext hl' hm' fun x => ?_]
    constructor
    · intro hx
      rcases List.mem_cons.1 ((h x).1 (List.mem_cons_of_mem _ hx)) with h1 | h1
      · have := ha x hx; omega
      · exact h1
    · intro hx
      rcases List.mem_cons.1 ((h x).2 (List.mem_cons_of_mem _ hx)) with h1 | h1
      · have := hb x hx; omega
      · exact h1
/-- the numbers from 0 on -/
def upI (n : Nat) : List Int := (List.range n).map fun k : Nat => (k : Int)
theorem upI_mem {n : Nat} {x : Int} : x ∈ upI n ↔ 0 ≤ x ∧ x < n := by
  unfold upI
  rw [List.mem_map]
  constructor
  · rintro ⟨k, hk, rfl⟩
    have := List.mem_range.1 hk
    omega
  · rintro ⟨h0, h1⟩
    exact ⟨x.toNat, List.mem_range.2 (by omega), by omega⟩
theorem upI_rise (n : Nat) : (upI n).Pairwise (· < ·) := by
  unfold upI
  rw [List.pairwise_map]
  exact List.pairwise_lt_range.imp fun h => by omega
theorem upI_length (n : Nat) : (upI n).length = n := by simp [upI]
theorem sortI_mem {l : List Int} {x : Int} : x ∈ sortI l ↔ x ∈ l := by unfold sortI; exact List.mem_mergeSort
theorem sortI_rise {l : List Int} (h : l.Nodup) : (sortI l).Pairwise (· < ·) := by
  have h1 : (sortI l).Pairwise fun a b => decide (a ≤ b) = true := List.pairwise_mergeSort (fun a b c => by simp; omega) (fun a b => by simp; omega) l
  have h2 : (sortI l).Nodup := (List.mergeSort_perm l _).nodup_iff.2 h
  refine (h1.and h2).imp ?_
  rintro a b ⟨h3, h4⟩
  have := of_decide_eq_true h3
  omega
/-- what a choice lets pass -/
def okP (l : List Int) (told : Bool) (s x : Int) : Bool := if 0 < l.length then decide (x ∈ l) else (!told || decide (x = s))
theorem ch_eq (l : List Int) (told : Bool) (s : Int) (n : Nat) : chL (chAll l told n) (chList l told s) = if 0 < l.length then sortI l else if told then [s] else upI n := by
  unfold chAll chList chL
  split
  · simp
  · cases told
    · simp [upI]
    · simp
theorem ch_filter {l : List Int} {told : Bool} {s : Int} {n : Nat} (hl : Fine l n) (h0 : 0 ≤ s) (h1 : s < n) : chL (chAll l told n) (chList l told s) = (upI n).filter (okP l told s) := by
  rw [ch_eq]
  split
  · rename_i hp
    refine rise_ext (sortI_rise hl.2.2) ((upI_rise n).filter _) fun x => ?_
    rw [sortI_mem, List.mem_filter, upI_mem]
    unfold okP
    rw [if_pos hp]
    exact ⟨fun h => ⟨hl.2.1 x h, decide_eq_true h⟩, fun h => of_decide_eq_true h.2⟩
  · rename_i hp
    cases told
    · rw [if_neg (by decide)]
      refine (List.filter_eq_self.2 fun x _ => ?_).symm
      unfold okP
      rw [if_neg hp]; rfl
    · rw [if_pos rfl]
      refine rise_ext (List.pairwise_singleton ..) ((upI_rise n).filter _) fun x => ?_
      rw [List.mem_singleton, List.mem_filter, upI_mem]
      unfold okP
      rw [if_neg hp]
      constructor
      · rintro rfl
        exact ⟨⟨h0, h1⟩, by simp⟩
      · rintro ⟨-, h⟩
        simpa using h
theorem ch_short {l : List Int} {told : Bool} {s : Int} {n : Nat} (hl : Fine l n) (h0 : 0 ≤ s) (h1 : s < n) (hn : n ≤ 60) : chAll l told n + (chList l told s).length ≤ 100 ∧ ∀ x ∈ chL (chAll l told n) (chList l told s), 0 ≤ x ∧ x ≤ 100 := by
  rw [← chL_length, ch_filter hl h0 h1]
  refine ⟨Nat.le_trans (List.length_filter_le _ _) (by rw [upI_length]; omega), fun x hx => ?_⟩
  have := upI_mem.1 (List.mem_filter.1 hx).1
  omega
theorem may_parts {r : R} {start : Int} (hm : mayT r start = true) : 0 ≤ start ∧ start ≤ 315537897599 ∧ chkR r = 0 := by
  unfold mayT at hm
  simpa only [Bool.and_eq_true, decide_eq_true_eq] using hm
end Go.Proofs.YtkbohijlhhpfbaaGreatDoor.Tm
