/- An order of names: again and again the least one that has a way to none that is left; in plain lists. -/
import Derived.Test.YthelkkbjflohgaaGa
namespace Go.Proofs.Ythelkkbjflohgaa.Gr
variable {α : Type}
/-- x has a way to none of s -/
def Free (l : List (α × α)) (s : List α) (x : α) : Prop := ∀ y ∈ s, ¬ Leads l x y
def Next (lt : α → α → Bool) (l : List (α × α)) (s : List α) (x : α) : Prop := x ∈ s ∧ Free l s x ∧ ∀ y ∈ s, Free l s y → y = x ∨ lt x y = true
/-- what Order tells of the names s -/
inductive Run (lt : α → α → Bool) (l : List (α × α)) : List α → List α → Bool → Prop
  | none {s : List α} : (∀ x, x ∉ s) → Run lt l s [] true
  | stuck {s : List α} : (∃ x, x ∈ s) → (∀ x ∈ s, ¬ Free l s x) → Run lt l s [] false
  | ok {s s' o : List α} {x : α} : Next lt l s x → (∀ y, y ∈ s' ↔ y ∈ s ∧ y ≠ x) → Run lt l s' o true → Run lt l s (x :: o) true
  | no {s s' o : List α} {x : α} : Next lt l s x → (∀ y, y ∈ s' ↔ y ∈ s ∧ y ≠ x) → Run lt l s' o false → Run lt l s [] false
theorem free_congr {l : List (α × α)} {s t : List α} (h : ∀ x, x ∈ s ↔ x ∈ t) {x : α} : Free l s x ↔ Free l t x := ⟨fun k y hy => k y ((h y).2 hy), fun k y hy => k y ((h y).1 hy)⟩
theorem next_congr {lt : α → α → Bool} {l : List (α × α)} {s t : List α} (h : ∀ x, x ∈ s ↔ x ∈ t) {x : α} (k : Next lt l s x) : Next lt l t x :=
  ⟨(h x).1 k.1, (free_congr h).1 k.2.1, fun y hy hf => k.2.2 y ((h y).2 hy) ((free_congr h).2 hf)⟩
theorem next_unique {lt : α → α → Bool} (as : ∀ {a b : α}, lt a b = true → lt b a = true → False) {l : List (α × α)} {s : List α} {x y : α} (h : Next lt l s x) (k : Next lt l s y) : x = y := by
  rcases h.2.2 y k.1 k.2.1 with e | h1
  · exact e.symm
  · rcases k.2.2 x h.1 h.2.1 with e | h2
    · exact e
    · exact (as h1 h2).elim
theorem run_congr {lt : α → α → Bool} {l : List (α × α)} {s t o : List α} {b : Bool} (h : ∀ x, x ∈ s ↔ x ∈ t) (k : Run lt l s o b) : Run lt l t o b := by
  cases k with
  | none k => exact .none fun x hx => k x ((h x).2 hx)
  | stuck k1 k2 => exact .stuck (let ⟨x, hx⟩ := k1; ⟨x, (h x).1 hx⟩) fun x hx hf => k2 x ((h x).2 hx) ((free_congr h).2 hf)
  | ok k1 k2 k3 => exact .ok (next_congr h k1) (fun y => (k2 y).trans (by rw [h y])) k3
  | no k1 k2 k3 => exact .no (next_congr h k1) (fun y => (k2 y).trans (by rw [h y])) k3
theorem run_unique {lt : α → α → Bool} (as : ∀ {a b : α}, lt a b = true → lt b a = true → False) {l : List (α × α)} {s o : List α} {b : Bool} (h : Run lt l s o b) : ∀ {o' : List α} {b' : Bool}, Run lt l s o' b' → o = o' ∧ b = b' := by
  induction h with
  | none h =>
    intro o' b' k
    cases k with
    | none => exact ⟨rfl, rfl⟩
    | stuck k1 _ => obtain ⟨x, hx⟩ := k1; exact (h x hx).elim
    | ok k1 _ _ => exact (h _ k1.1).elim
    | no k1 _ _ => exact (h _ k1.1).elim
  | stuck h1 h2 =>
    intro o' b' k
    cases k with
    | none k => obtain ⟨x, hx⟩ := h1; exact (k x hx).elim
    | stuck => exact ⟨rfl, rfl⟩
    | ok k1 _ _ => exact (h2 _ k1.1 k1.2.1).elim
    | no k1 _ _ => exact (h2 _ k1.1 k1.2.1).elim
  | ok h1 h2 _ ih =>
    intro o' b' k
    cases k with
    | none k => exact (k _ h1.1).elim
    | stuck _ k2 => exact (k2 _ h1.1 h1.2.1).elim
    | ok k1 k2 k3 =>
      obtain rfl := next_unique as h1 k1
      obtain ⟨rfl, -⟩ := ih (run_congr (fun x => (k2 x).trans (h2 x).symm) k3)
      exact ⟨rfl, rfl⟩
    | no k1 k2 k3 =>
      obtain rfl := next_unique as h1 k1
      obtain ⟨-, e⟩ := ih (run_congr (fun x => (k2 x).trans (h2 x).symm) k3)
      cases e
  | no h1 h2 _ ih =>
    intro o' b' k
    cases k with
    | none k => exact (k _ h1.1).elim
    | stuck _ k2 => exact (k2 _ h1.1 h1.2.1).elim
    | ok k1 k2 k3 =>
      obtain rfl := next_unique as h1 k1
      obtain ⟨-, e⟩ := ih (run_congr (fun x => (k2 x).trans (h2 x).symm) k3)
      cases e
    | no k1 k2 k3 => exact ⟨rfl, rfl⟩
/-- acc has been told, cur is left -/
def Acc (lt : α → α → Bool) (l : List (α × α)) (names acc cur : List α) : Prop :=
  (∀ o, Run lt l cur o true → Run lt l names (acc ++ o) true) ∧ (∀ o, Run lt l cur o false → Run lt l names [] false)
theorem acc_start {lt : α → α → Bool} {l : List (α × α)} {names cur : List α} (h : ∀ x, x ∈ cur ↔ x ∈ names) : Acc lt l names [] cur :=
  ⟨fun _ k => run_congr h k, fun o k => by
    have k2 := run_congr h k
    cases k2 with
    | stuck a b => exact .stuck a b
    | no a b c => exact .no a b c⟩
theorem run_false {lt : α → α → Bool} {l : List (α × α)} {s o : List α} (h : Run lt l s o false) : o = [] := by cases h <;> rfl
theorem acc_step {lt : α → α → Bool} {l : List (α × α)} {names acc cur cur' : List α} {x : α} (h : Acc lt l names acc cur) (hx : Next lt l cur x) (hc : ∀ y, y ∈ cur' ↔ y ∈ cur ∧ y ≠ x) : Acc lt l names (acc ++ [x]) cur' :=
  ⟨fun o k => by rw [List.append_assoc]; exact h.1 _ (.ok hx hc k), fun _ k => h.2 _ (.no hx hc k)⟩
theorem acc_done {lt : α → α → Bool} {l : List (α × α)} {names acc cur : List α} (h : Acc lt l names acc cur) (hc : ∀ x, x ∉ cur) : Run lt l names acc true := by
  have := h.1 [] (.none hc)
  rwa [List.append_nil] at this
theorem acc_stuck {lt : α → α → Bool} {l : List (α × α)} {names acc cur : List α} (h : Acc lt l names acc cur) (h1 : ∃ x, x ∈ cur) (h2 : ∀ x ∈ cur, ¬ Free l cur x) : Run lt l names [] false := h.2 _ (.stuck h1 h2)
/-- among names that rise the first that is free is next -/
theorem next_sorted {lt : α → α → Bool} {l : List (α × α)} {s : List α} {k : Nat} (hs : s.Pairwise fun a b => lt a b = true) (hk : k < s.length) (h0 : ∀ j (hj : j < k), ¬ Free l s s[j]) (h1 : Free l s s[k]) : Next lt l s s[k] := by
  refine ⟨List.getElem_mem hk, h1, fun y hy hf => ?_⟩
  obtain ⟨j, hj, rfl⟩ := List.mem_iff_getElem.1 hy
  rcases Nat.lt_trichotomy j k with h | h | h
  · exact (h0 j h hf).elim
  · subst h; exact .inl rfl
  · exact .inr (List.pairwise_iff_getElem.1 hs k j hk hj h)
theorem mem_erase {lt : α → α → Bool} (ir : ∀ a, lt a a = false) {s : List α} {k : Nat} (hs : s.Pairwise fun a b => lt a b = true) (hk : k < s.length) (y : α) : y ∈ s.eraseIdx k ↔ y ∈ s ∧ y ≠ s[k] := by
  rw [List.mem_eraseIdx_iff_getElem]
  constructor
  · rintro ⟨j, hj, hne, rfl⟩
    refine ⟨List.getElem_mem hj, fun e => ?_⟩
    rcases Nat.lt_or_gt_of_ne hne with h | h
    · have := List.pairwise_iff_getElem.1 hs j k hj hk h
      rw [e, ir] at this; cases this
    · have := List.pairwise_iff_getElem.1 hs k j hk hj h
      rw [e, ir] at this; cases this
  · rintro ⟨hy, hne⟩
    obtain ⟨j, hj, rfl⟩ := List.mem_iff_getElem.1 hy
    exact ⟨j, hj, fun e => hne (by subst e; rfl), rfl⟩
/-- where there is no circle, one of any names is free -/
theorem minimal {l : List (α × α)} (h : ∀ x, ¬ Leads l x x) : ∀ {s : List α}, s ≠ [] → ∃ x ∈ s, Free l s x
  | [], h0 => (h0 rfl).elim
  | z :: t, _ => by
    by_cases ht : t = []
    · subst ht
      exact ⟨z, List.mem_cons_self .., fun y hy => by rw [List.mem_singleton] at hy; subst hy; exact h _⟩
    · obtain ⟨x, hx, hf⟩ := minimal h ht
      by_cases hz : Leads l x z
      · refine ⟨z, List.mem_cons_self .., fun y hy => ?_⟩
        rcases List.mem_cons.1 hy with rfl | hy
        · exact h _
        · exact fun k => hf y hy (hz.trans k)
      · refine ⟨x, List.mem_cons_of_mem _ hx, fun y hy => ?_⟩
        rcases List.mem_cons.1 hy with rfl | hy
        · exact hz
        · exact hf y hy
theorem run_mem {lt : α → α → Bool} {l : List (α × α)} {s o : List α} {b : Bool} (h : Run lt l s o b) : ∀ x ∈ o, x ∈ s := by
  induction h with
  | none => simp
  | stuck => simp
  | ok h1 h2 _ ih =>
    intro x hx
    rcases List.mem_cons.1 hx with rfl | hx
    · exact h1.1
    · exact ((h2 x).1 (ih x hx)).1
  | no => simp
/-- where there is no circle there is an order, and each stands behind what it has a way to -/
theorem run_acyclic {lt : α → α → Bool} {l : List (α × α)} (hl : ∀ x, ¬ Leads l x x) {s o : List α} {b : Bool} (h : Run lt l s o b) : b = true ∧ o.Pairwise (fun x y => x ≠ y) ∧ ∀ i j (hj : j < o.length) (hi : i ≤ j), ¬ Leads l o[i] o[j] := by
  induction h with
  | none => exact ⟨rfl, .nil, fun i j hj => by simp at hj⟩
  | stuck h1 h2 =>
    obtain ⟨x, hx⟩ := h1
    obtain ⟨y, hy, hf⟩ := minimal hl (List.ne_nil_of_mem hx)
    exact (h2 y hy hf).elim
  | @ok s s' o x h1 h2 h3 ih =>
    refine ⟨rfl, .cons (fun y hy e => ?_) ih.2.1, fun i j hj hi => ?_⟩
    · exact ((h2 y).1 (run_mem h3 y hy)).2 e.symm
    · cases i with
      | zero =>
        cases j with
        | zero => exact hl _
        | succ j => exact h1.2.1 _ ((h2 _).1 (run_mem h3 _ (List.getElem_mem (by simpa using hj)))).1
      | succ i =>
        cases j with
        | zero => omega
        | succ j => exact ih.2.2 i j (by simpa using hj) (by omega)
  | no _ _ _ ih => cases ih.1
end Go.Proofs.Ythelkkbjflohgaa.Gr
