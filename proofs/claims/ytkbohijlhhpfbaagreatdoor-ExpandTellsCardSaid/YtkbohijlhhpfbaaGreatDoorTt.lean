/- The seconds of a stretch are those that pass one by one: the plain law. -/
import Derived.Test.YtkbohijlhhpfbaaGreatDoorTo
namespace Go.Proofs.YtkbohijlhhpfbaaGreatDoor.Tm
open Ru
theorem mem_sec {a b h m x : Int} {ss : List Int} : x ∈ secOut a b h m ss ↔ ∃ s ∈ ss, x = h * 3600 + m * 60 + s ∧ a ≤ x ∧ x < b := by
  unfold secOut
  rw [List.mem_filter, List.mem_map, Bool.and_eq_true, decide_eq_true_iff, decide_eq_true_iff]
  constructor
  · rintro ⟨⟨s, hs, rfl⟩, h1, h2⟩
    exact ⟨s, hs, rfl, h1, h2⟩
  · rintro ⟨s, hs, rfl, h1, h2⟩
    exact ⟨⟨s, hs, rfl⟩, h1, h2⟩
theorem rise_sec {a b h m : Int} {ss : List Int} (hr : ss.Pairwise (· < ·)) : (secOut a b h m ss).Pairwise (· < ·) := by
  unfold secOut
  refine List.Pairwise.filter _ ?_
  rw [List.pairwise_map]
  exact hr.imp fun h => by omega
theorem rise_min {a b h : Int} {ms ss : List Int} (hm : ms.Pairwise (· < ·)) (hs : ss.Pairwise (· < ·)) (bs : ∀ x ∈ ss, 0 ≤ x ∧ x < 60) : (minOut a b h ms ss).Pairwise (· < ·) := by
  unfold minOut
  rw [List.pairwise_flatMap]
  refine ⟨fun m _ => rise_sec hs, hm.imp fun {m m'} hlt x hx y hy => ?_⟩
  obtain ⟨s, h1, rfl, -⟩ := mem_sec.1 hx
  obtain ⟨s', h2, rfl, -⟩ := mem_sec.1 hy
  have := bs s h1
  have := bs s' h2
  omega
theorem mem_min {a b h x : Int} {ms ss : List Int} : x ∈ minOut a b h ms ss ↔ ∃ m ∈ ms, ∃ s ∈ ss, x = h * 3600 + m * 60 + s ∧ a ≤ x ∧ x < b := by
  unfold minOut
  rw [List.mem_flatMap]
  constructor
  · rintro ⟨m, h1, h2⟩; exact ⟨m, h1, mem_sec.1 h2⟩
  · rintro ⟨m, h1, h2⟩; exact ⟨m, h1, mem_sec.2 h2⟩
theorem rise_RH (r : R) (start a b : Int) (k : Nat) : (RH r start a b k).Pairwise (· < ·) := by
  unfold RH
  rw [List.pairwise_flatMap]
  refine ⟨fun h _ => rise_min ((upI_rise 60).filter _) ((upI_rise 60).filter _) (filt_in _ _), ((upI_rise k).filter _).imp fun {h h'} hlt x hx y hy => ?_⟩
  obtain ⟨m, m1, s, s1, rfl, -⟩ := mem_min.1 hx
  obtain ⟨m', m2, s', s2, rfl, -⟩ := mem_min.1 hy
  have := filt_in _ _ m m1
  have := filt_in _ _ m' m2
  have := filt_in _ _ s s1
  have := filt_in _ _ s' s2
  omega
theorem mem_RH {r : R} {start a b x : Int} : x ∈ RH r start a b 24 ↔ 0 ≤ x ∧ x < 86400 ∧ a ≤ x ∧ x < b ∧ hOk r start (x / 3600) = true ∧ mOk r start (x / 60 % 60) = true ∧ sOk r start (x % 60) = true := by
  unfold RH
  rw [List.mem_flatMap]
  constructor
  · rintro ⟨h, h1, h2⟩
    obtain ⟨m, m1, s, s1, rfl, ha, hb⟩ := mem_min.1 h2
    have e1 := filt_in _ _ h h1
    have e2 := filt_in _ _ m m1
    have e3 := filt_in _ _ s s1
    have d1 : (h * 3600 + m * 60 + s) / 3600 = h := by omega
    have d2 : (h * 3600 + m * 60 + s) / 60 % 60 = m := by omega
    have d3 : (h * 3600 + m * 60 + s) % 60 = s := by omega
    rw [d1, d2, d3]
    exact ⟨by omega, by omega, ha, hb, (List.mem_filter.1 h1).2, (List.mem_filter.1 m1).2, (List.mem_filter.1 s1).2⟩
  · rintro ⟨h0, h1, ha, hb, p1, p2, p3⟩
    refine ⟨x / 3600, List.mem_filter.2 ⟨upI_mem.2 (by omega), p1⟩, mem_min.2 ⟨x / 60 % 60, List.mem_filter.2 ⟨upI_mem.2 (by omega), p2⟩, x % 60, List.mem_filter.2 ⟨upI_mem.2 (by omega), p3⟩, by omega, ha, hb⟩⟩
/-- the numbers from a on -/
def rng (a : Int) (n : Nat) : List Int := (List.range n).map fun k : Nat => a + (k : Int)
theorem rng_mem {a x : Int} {n : Nat} : x ∈ rng a n ↔ a ≤ x ∧ x < a + n := by
  unfold rng
  rw [List.mem_map]
  constructor
  · rintro ⟨k, hk, rfl⟩
    have := List.mem_range.1 hk
    omega
  · rintro ⟨h0, h1⟩
    exact ⟨(x - a).toNat, List.mem_range.2 (by omega), by omega⟩
theorem rng_rise (a : Int) (n : Nat) : (rng a n).Pairwise (· < ·) := by
  unfold rng
  rw [List.pairwise_map]
  exact List.pairwise_lt_range.imp fun h => by omega
theorem rng_succ (a : Int) (n : Nat) : rng a (n + 1) = rng a n ++ [a + (n : Int)] := by unfold rng; rw [List.range_succ]; simp
theorem rng_add (a : Int) (n m : Nat) : rng a (n + m) = rng a n ++ rng (a + n) m := by
  induction m with
  | zero => simp [rng]
  | succ m ih => rw [← Nat.add_assoc, rng_succ, ih, rng_succ, List.append_assoc]; congr 2; simp; omega
/-- what passes one by one -/
def one (r : R) (start a : Int) (n : Nat) : List Int := (rng a n).filter (passT r start)
theorem secs_one (r : R) {start a b : Int} (ha : 0 ≤ a) (hab : a ≤ b) (hb : b ≤ 86400) : secsOf r start a b = one r start a (b - a).toNat := by
  rw [secs_eq]
  unfold rsecs one
  cases hm : mayT r start
  · rw [if_neg (fun h => by cases h.1)]
    symm
    rw [List.filter_eq_nil_iff]
    intro x _
    unfold passT
    rw [hm]
    simp
  · rw [if_pos ⟨rfl, ha, hab, hb⟩]
    refine rise_ext (rise_RH ..) ((rng_rise ..).filter _) fun x => ?_
    rw [mem_RH, List.mem_filter, rng_mem, pass_eq]
    unfold rpassT
    rw [hm]
    simp only [Bool.true_and, Bool.and_eq_true, decide_eq_true_iff]
    constructor
    · rintro ⟨h0, h1, h2, h3, h4, h5, h6⟩
      exact ⟨by omega, h0, h1, h4, h5, h6⟩
    · rintro ⟨h, h0, h1, h4, h5, h6⟩
      exact ⟨h0, h1, by omega, by omega, h4, h5, h6⟩
theorem one_zero (r : R) (start a : Int) : one r start a 0 = [] := rfl
theorem one_yes {r : R} {start a : Int} {j : Nat} (h : passT r start (a + j) = true) : one r start a (j + 1) = one r start a j ++ [a + (j : Int)] := by unfold one; rw [rng_succ, List.filter_append]; simp [h]
theorem one_no {r : R} {start a : Int} {j : Nat} (h : passT r start (a + j) = false) : one r start a (j + 1) = one r start a j := by unfold one; rw [rng_succ, List.filter_append]; simp [h]
theorem one_prefix (r : R) (start a : Int) {j n : Nat} (h : j ≤ n) : one r start a j <+: one r start a n := by
  obtain ⟨m, rfl⟩ : ∃ m, n = j + m := ⟨n - j, by omega⟩
  unfold one
  rw [rng_add, List.filter_append]
  exact List.prefix_append _ _
theorem one_at {r : R} {start a : Int} {j n : Nat} (h : passT r start (a + j) = true) (hj : j < n) : (one r start a n)[(one r start a j).length]? = some (a + (j : Int)) ∧ (one r start a j).length < (one r start a n).length := by
  obtain ⟨t, ht⟩ := one_prefix r start a (show j + 1 ≤ n by omega)
  rw [one_yes h] at ht
  rw [← ht]
  simp
theorem one_parts (r : R) (start a : Int) (n m : Nat) : one r start a (n + m) = one r start a n ++ one r start (a + n) m := by
  unfold one
  rw [rng_add, List.filter_append]
theorem flat_len {α β : Type} (g : α → List β) (c : Nat) : ∀ l : List α, (∀ x ∈ l, (g x).length = c) → (l.flatMap g).length = l.length * c
  | [], _ => by simp
  | x :: l, h => by
    rw [List.flatMap_cons, List.length_append, h x (List.mem_cons_self ..), flat_len g c l (fun y hy => h y (List.mem_cons_of_mem _ hy)), List.length_cons, Nat.add_mul]
    omega
theorem sec_all {h m : Int} {ss : List Int} (h0 : 0 ≤ h ∧ h < 24) (m0 : 0 ≤ m ∧ m < 60) (bs : ∀ x ∈ ss, 0 ≤ x ∧ x < 60) : (secOut 0 86400 h m ss).length = ss.length := by
  unfold secOut
  rw [List.filter_eq_self.2, List.length_map]
  intro x hx
  obtain ⟨s, hs, rfl⟩ := List.mem_map.1 hx
  have := bs s hs
  simp
  omega
/-- all seconds of a day: one with each of the others -/
theorem secs_count {r : R} {start : Int} (hm : mayT r start = true) : (secsOf r start 0 86400).length = (hF r start 24).length * ((mF r start 60).length * (sF r start 60).length) := by
  rw [secs_eq]
  unfold rsecs
  rw [if_pos ⟨hm, by decide, by decide, by decide⟩]
  unfold RH
  refine flat_len _ _ _ fun h hh => ?_
  unfold minOut
  refine flat_len _ _ _ fun m hm => ?_
  exact sec_all (filt_in _ _ h hh) (filt_in _ _ m hm) (filt_in _ _)
theorem hours_count {r : R} {start : Int} (hm : mayT r start = true) : (hF r start 24).length = (if 0 < r.hour.length then r.hour.length else if toldH r then 1 else 24) ∧ (mF r start 60).length = (if 0 < r.min.length then r.min.length else if toldM r then 1 else 60) ∧ (sF r start 60).length = (if 0 < r.sec.length then r.sec.length else if toldS r then 1 else 60) := by
  obtain ⟨e1, e2, e3⟩ := lists_eq hm
  rw [← e1, ← e2, ← e3]
  unfold hourL minL secL
  rw [ch_eq, ch_eq, ch_eq]
  have f : ∀ (l : List Int) (t : Bool) (s : Int) (n : Nat), (if 0 < l.length then sortI l else if t then [s] else upI n).length = (if 0 < l.length then l.length else if t then 1 else n) := fun l t s n => by
    split
    · exact sortI_length l
    · cases t
      · simp [upI_length]
      · simp
  exact ⟨f _ _ _ _, f _ _ _ _, f _ _ _ _⟩
end Go.Proofs.YtkbohijlhhpfbaaGreatDoor.Tm
