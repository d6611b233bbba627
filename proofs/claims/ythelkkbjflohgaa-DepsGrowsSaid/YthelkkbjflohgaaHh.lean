/- What awake asks: three names, in plain lists; and rows that a literal makes. -/
import Derived.Test.YthelkkbjflohgaaHg
namespace Go.Proofs.Ythelkkbjflohgaa.Ds
open Go.RowKit Ut Gr Go.Maps
section
variable {α : Type} {a b c : α}
theorem aw_way : Leads [(a, b), (b, c)] a c := .more (b := b) (by simp) (.one (by simp))
theorem aw_no (ac : a ≠ c) (bc : b ≠ c) : ¬ Leads [(a, b), (b, c)] c a := fun h => by
  obtain ⟨x, hx⟩ := h.first
  simp [Ne.symm ac, Ne.symm bc] at hx
theorem aw_sink (ac : a ≠ c) (bc : b ≠ c) (y : α) : ¬ Leads [(a, b), (b, c), (a, c)] c y := fun h => by
  obtain ⟨x, hx⟩ := h.first
  simp [Ne.symm ac, Ne.symm bc] at hx
theorem aw_mid (ab : a ≠ b) (ac : a ≠ c) (bc : b ≠ c) {y : α} (h : Leads [(a, b), (b, c), (a, c)] b y) : y = c := by
  refine way_stays (fun y => y = c) (fun y hy => ?_) (fun x hx y hy => ?_) h
  · simpa [Ne.symm ab] using hy
  · subst hx; simp [Ne.symm ac, Ne.symm bc] at hy
theorem aw_top (ab : a ≠ b) (ac : a ≠ c) {y : α} (h : Leads [(a, b), (b, c), (a, c)] a y) : y ≠ a := by
  obtain ⟨x, hx⟩ := h.last
  simp at hx
  rintro rfl
  rcases hx with h | h | h
  · exact ab h.2
  · exact ac h.2
  · exact ac h.2
theorem aw_run (lt : α → α → Bool) (ab : a ≠ b) (ac : a ≠ c) (bc : b ≠ c) : Run lt [(a, b), (b, c), (a, c)] [a, b, c] [c, b, a] true := by
  have lab : Leads [(a, b), (b, c), (a, c)] a b := .one (by simp)
  have lbc : Leads [(a, b), (b, c), (a, c)] b c := .one (by simp)
  refine .ok (s' := [a, b]) ⟨by simp, fun y _ => aw_sink ac bc y, fun y hy hf => ?_⟩ (fun y => ?_) ?_
  · simp at hy
    rcases hy with rfl | rfl | rfl
    · exact (hf b (by simp) lab).elim
    · exact (hf c (by simp) lbc).elim
    · exact .inl rfl
  · simp only [List.mem_cons, List.not_mem_nil, or_false]
    constructor
    · rintro (rfl | rfl)
      · exact ⟨.inl rfl, ac⟩
      · exact ⟨.inr (.inl rfl), bc⟩
    · rintro ⟨h, hn⟩
      rcases h with h | h | h
      · exact .inl h
      · exact .inr h
      · exact (hn h).elim
  refine .ok (s' := [a]) ⟨by simp, fun y hy h => ?_, fun y hy hf => ?_⟩ (fun y => ?_) ?_
  · have := aw_mid ab ac bc h
    subst this
    simp [Ne.symm ac, Ne.symm bc] at hy
  · simp at hy
    rcases hy with rfl | rfl
    · exact (hf b (by simp) lab).elim
    · exact .inl rfl
  · simp only [List.mem_cons, List.not_mem_nil, or_false]
    constructor
    · rintro rfl; exact ⟨.inl rfl, ab⟩
    · rintro ⟨h, hn⟩
      rcases h with h | h
      · exact h
      · exact (hn h).elim
  refine .ok (s' := []) ⟨by simp, fun y hy h => ?_, fun y hy hf => ?_⟩ (fun y => ?_) (.none (by simp))
  · simp at hy; exact aw_top ab ac h hy
  · simp at hy; exact .inl hy
  · simp
theorem aw_acyc (ab : a ≠ b) (ac : a ≠ c) (bc : b ≠ c) (x : α) : ¬ Leads [(a, b), (b, c)] x x := fun h => by
  have hm : ∀ {u v : α}, Leads [(a, b), (b, c)] u v → Leads [(a, b), (b, c), (a, c)] u v := fun k => way_mono (fun e he => by
    simp only [List.mem_cons, List.not_mem_nil, or_false] at he ⊢
    rcases he with he | he
    · exact .inl he
    · exact .inr (.inl he)) k
  obtain ⟨y, hy⟩ := h.first
  simp at hy
  rcases hy with ⟨rfl, -⟩ | ⟨rfl, -⟩
  · exact aw_top ab ac (hm h) rfl
  · exact bc (aw_mid ab ac bc (hm h))
theorem aw_self (lt : α → α → Bool) : Run lt [(a, a)] [a] [] false := .stuck ⟨a, by simp⟩ fun x hx hf => by
  simp at hx; subst hx
  exact hf x (by simp) (.one (by simp))
end
theorem strs1 (w : World) (a : ByteArray) (T : TypeId) : Strs (w.alloc (.cells #[.string a] T)) (.slice (some ⟨w.heap.size, 0, none⟩) 1 1) [a] :=
  .inr ⟨by simp, _, 0, 1, rfl, by rw [World.size_alloc]; omega, by simp, fun i h => by
    match i, h with
    | 0, _ => simp [World.cell?_alloc_new]⟩
theorem strs2 (w : World) (a b : ByteArray) (T : TypeId) : Strs (w.alloc (.cells #[.string a, .string b] T)) (.slice (some ⟨w.heap.size, 0, none⟩) 2 2) [a, b] :=
  .inr ⟨by simp, _, 0, 2, rfl, by rw [World.size_alloc]; omega, by simp, fun i h => by
    match i, h with
    | 0, _ => simp [World.cell?_alloc_new]
    | 1, _ => simp [World.cell?_alloc_new]⟩
theorem strs3 (w : World) (a b c : ByteArray) (T : TypeId) : Strs (w.alloc (.cells #[.string a, .string b, .string c] T)) (.slice (some ⟨w.heap.size, 0, none⟩) 3 3) [a, b, c] :=
  .inr ⟨by simp, _, 0, 3, rfl, by rw [World.size_alloc]; omega, by simp, fun i h => by
    match i, h with
    | 0, _ => simp [World.cell?_alloc_new]
    | 1, _ => simp [World.cell?_alloc_new]
    | 2, _ => simp [World.cell?_alloc_new]⟩
theorem edgs1 (w : World) (a b : ByteArray) (T : TypeId) : Edgs (w.alloc (.cells #[.string a, .string b] T)) (.slice (some ⟨w.heap.size, 0, none⟩) 1 1) [(a, b)] :=
  .inr ⟨by simp, _, 0, 1, rfl, by rw [World.size_alloc]; omega, by simp, fun i h => by
    match i, h with
    | 0, _ => simp [World.cell?_alloc_new]⟩
theorem edgs2 (w : World) (a b c d : ByteArray) (T : TypeId) : Edgs (w.alloc (.cells #[.string a, .string b, .string c, .string d] T)) (.slice (some ⟨w.heap.size, 0, none⟩) 2 2) [(a, b), (c, d)] :=
  .inr ⟨by simp, _, 0, 2, rfl, by rw [World.size_alloc]; omega, by simp, fun i h => by
    match i, h with
    | 0, _ => simp [World.cell?_alloc_new]
    | 1, _ => simp [World.cell?_alloc_new]⟩
end Go.Proofs.Ythelkkbjflohgaa.Ds
