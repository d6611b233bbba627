/- Ways through a graph, and an order of its names, in plain lists. -/
namespace Go.Proofs.Ythelkkbjflohgaa.Gr
variable {α : Type}
/-- there is a way -/
inductive Leads (l : List (α × α)) : α → α → Prop
  | one {a b : α} : (a, b) ∈ l → Leads l a b
  | more {a b c : α} : (a, b) ∈ l → Leads l b c → Leads l a c
theorem Leads.trans {l : List (α × α)} {a b c : α} (h : Leads l a b) (k : Leads l b c) : Leads l a c := by
  induction h with
  | one h => exact .more h k
  | more h _ ih => exact .more h (ih k)
theorem way_step {l : List (α × α)} {a c : α} : Leads l a c ↔ ∃ b, (a, b) ∈ l ∧ (b = c ∨ Leads l b c) := by
  constructor
  · intro h
    cases h with
    | one h => exact ⟨_, h, .inl rfl⟩
    | more h k => exact ⟨_, h, .inr k⟩
  · rintro ⟨b, h, rfl | k⟩
    · exact .one h
    · exact .more h k
theorem Leads.last {l : List (α × α)} {a c : α} (h : Leads l a c) : ∃ b, (b, c) ∈ l := by
  induction h with
  | one h => exact ⟨_, h⟩
  | more _ _ ih => exact ih
theorem Leads.first {l : List (α × α)} {a c : α} (h : Leads l a c) : ∃ b, (a, b) ∈ l := by
  cases h with
  | one h => exact ⟨_, h⟩
  | more h _ => exact ⟨_, h⟩
theorem way_mono {l m : List (α × α)} {a b : α} (h : ∀ e ∈ l, e ∈ m) (k : Leads l a b) : Leads m a b := by
  induction k with
  | one k => exact .one (h _ k)
  | more k _ ih => exact .more (h _ k) ih
/-- where a way leads stays among names that edges do not leave -/
theorem way_stays {l : List (α × α)} {a b : α} (S : α → Prop) (h1 : ∀ y, (a, y) ∈ l → S y) (h2 : ∀ x, S x → ∀ y, (x, y) ∈ l → S y) (k : Leads l a b) : S b := by
  induction k with
  | one k => exact h1 _ k
  | more k _ ih => exact ih (h2 _ (h1 _ k))
open Classical in
noncomputable def way (l : List (α × α)) (a b : α) : Bool := decide (Leads l a b)
open Classical in
theorem way_iff {l : List (α × α)} {a b : α} : way l a b = true ↔ Leads l a b := by unfold way; exact decide_eq_true_iff
theorem way_no {l : List (α × α)} {a b : α} : way l a b = false ↔ ¬ Leads l a b := by rw [← way_iff]; cases way l a b <;> simp
/-- a search: S has been seen, T is to be looked at -/
def Inv (l : List (α × α)) (a : α) (S T : List α) : Prop :=
  (∀ x ∈ S, Leads l a x) ∧ (∀ x ∈ T, Leads l a x) ∧ (∀ b, (a, b) ∈ l → b ∈ S ∨ b ∈ T) ∧ ∀ x ∈ S, ∀ b, (x, b) ∈ l → b ∈ S ∨ b ∈ T
theorem inv_skip {l : List (α × α)} {a x : α} {S T : List α} (h : Inv l a S (T ++ [x])) (hx : x ∈ S) : Inv l a S T := by
  have side : ∀ b, b ∈ S ∨ b ∈ T ++ [x] → b ∈ S ∨ b ∈ T := fun b hb => by
    rcases hb with hb | hb
    · exact .inl hb
    · rw [List.mem_append, List.mem_singleton] at hb
      rcases hb with hb | rfl
      · exact .inr hb
      · exact .inl hx
  exact ⟨h.1, fun y hy => h.2.1 y (List.mem_append_left _ hy), fun b hb => side b (h.2.2.1 b hb), fun y hy b hb => side b (h.2.2.2 y hy b hb)⟩
theorem inv_end {l : List (α × α)} {a : α} {S : List α} (h : Inv l a S []) (x : α) : x ∈ S ↔ Leads l a x :=
  ⟨h.1 x, fun k => way_stays (fun y => y ∈ S) (fun y hy => (h.2.2.1 y hy).resolve_right (by simp)) (fun u hu y hy => (h.2.2.2 u hu y hy).resolve_right (by simp)) k⟩
variable [DecidableEq α]
/-- is it among them? -/
def isIn (x : α) (S : List α) : Bool := decide (x ∈ S)
theorem isIn_iff {x : α} {S : List α} : isIn x S = true ↔ x ∈ S := decide_eq_true_iff
theorem isIn_yes {x : α} {S : List α} (h : x ∈ S) : isIn x S = true := isIn_iff.2 h
theorem isIn_no {x : α} {S : List α} (h : x ∉ S) : isIn x S = false := decide_eq_false h
theorem isIn_congr {x y : α} {S T : List α} (h : x ∈ S ↔ y ∈ T) : isIn x S = isIn y T := by unfold isIn; exact decide_eq_decide.2 h
def ofL (l : List (α × α)) (a : α) : List α := (l.filter fun e => decide (e.1 = a)).map (·.2)
def onL (l : List (α × α)) (a : α) : List α := (l.filter fun e => decide (e.2 = a)).map (·.1)
theorem mem_ofL {l : List (α × α)} {a b : α} : b ∈ ofL l a ↔ (a, b) ∈ l := by
  unfold ofL
  rw [List.mem_map]
  constructor
  · rintro ⟨⟨u, v⟩, h, rfl⟩
    rw [List.mem_filter, decide_eq_true_iff] at h
    obtain ⟨h, rfl⟩ := h
    exact h
  · intro h
    exact ⟨(a, b), by rw [List.mem_filter, decide_eq_true_iff]; exact ⟨h, rfl⟩, rfl⟩
theorem ofL_le (l : List (α × α)) (a : α) : (ofL l a).length ≤ l.length := by unfold ofL; rw [List.length_map]; exact List.length_filter_le _ _
theorem onL_le (l : List (α × α)) (a : α) : (onL l a).length ≤ l.length := by unfold onL; rw [List.length_map]; exact List.length_filter_le _ _
theorem inv_start (l : List (α × α)) (a : α) : Inv l a [] (ofL l a) :=
  ⟨by simp, fun x h => .one (mem_ofL.1 h), fun b h => .inr (mem_ofL.2 h), by simp⟩
theorem inv_take {l : List (α × α)} {a x : α} {S T : List α} (h : Inv l a S (T ++ [x])) : Inv l a (x :: S) (T ++ ofL l x) := by
  have hx : Leads l a x := h.2.1 x (by simp)
  have side : ∀ b, b ∈ S ∨ b ∈ T ++ [x] → b ∈ x :: S ∨ b ∈ T ++ ofL l x := fun b hb => by
    rcases hb with hb | hb
    · exact .inl (List.mem_cons_of_mem _ hb)
    · rw [List.mem_append, List.mem_singleton] at hb
      rcases hb with hb | rfl
      · exact .inr (List.mem_append_left _ hb)
      · exact .inl (List.mem_cons_self ..)
  refine ⟨fun y hy => ?_, fun y hy => ?_, fun b hb => side b (h.2.2.1 b hb), fun y hy b hb => ?_⟩
  · rcases List.mem_cons.1 hy with rfl | hy
    · exact hx
    · exact h.1 y hy
  · rcases List.mem_append.1 hy with hy | hy
    · exact h.2.1 y (List.mem_append_left _ hy)
    · exact hx.trans (.one (mem_ofL.1 hy))
  · rcases List.mem_cons.1 hy with rfl | hy
    · exact .inr (List.mem_append_right _ (mem_ofL.2 hb))
    · exact side b (h.2.2.2 y hy b hb)
/-- how many edges lead to what has not been seen -/
def unseen (l : List (α × α)) (S : List α) : Nat := (l.filter fun e => decide (e.2 ∉ S)).length
theorem unseen_le (l : List (α × α)) (S : List α) : unseen l S ≤ l.length := List.length_filter_le _ _
theorem unseen_mono {S S' : List α} (h : ∀ x ∈ S, x ∈ S') : ∀ l : List (α × α), unseen l S' ≤ unseen l S
  | [] => Nat.le_refl _
  | e :: l => by
    have ih := unseen_mono h l
    unfold unseen at ih ⊢
    rw [List.filter_cons, List.filter_cons]
    by_cases h1 : e.2 ∈ S
    · rw [if_neg (by simp [h _ h1]), if_neg (by simp [h1])]; exact ih
    · rw [if_pos (c := decide (e.2 ∉ S) = true) (by simp [h1])]
      split
      · simp only [List.length_cons]; omega
      · simp only [List.length_cons]; omega
theorem unseen_less {S S' : List α} (h : ∀ x ∈ S, x ∈ S') {x : α} (hx : x ∉ S) (hx' : x ∈ S') : ∀ {l : List (α × α)}, (∃ u, (u, x) ∈ l) → unseen l S' + 1 ≤ unseen l S
  | [], h => by obtain ⟨_, h⟩ := h; cases h
  | e :: l, hl => by
    have hm := unseen_mono h l
    by_cases he : e.2 = x
    · unfold unseen at hm ⊢
      rw [List.filter_cons, List.filter_cons, if_neg (by simp [he, hx']), if_pos (by simp [he, hx])]
      simp only [List.length_cons]; omega
    · have ih := unseen_less h hx hx' (l := l) (by
        obtain ⟨u, hu⟩ := hl
        rcases List.mem_cons.1 hu with rfl | hu
        · exact absurd rfl he
        · exact ⟨u, hu⟩)
      unfold unseen at ih ⊢
      rw [List.filter_cons, List.filter_cons]
      by_cases h1 : e.2 ∈ S
      · rw [if_neg (by simp [h _ h1]), if_neg (by simp [h1])]; exact ih
      · rw [if_pos (c := decide (e.2 ∉ S) = true) (by simp [h1])]
        split
        · simp only [List.length_cons]; omega
        · simp only [List.length_cons]; omega
/-- how many rounds a search has at most -/
def meas (l : List (α × α)) (S T : List α) : Nat := unseen l S * (l.length + 1) + T.length
theorem meas_start (l : List (α × α)) (a : α) : meas l [] (ofL l a) ≤ l.length * (l.length + 1) + l.length := by
  unfold meas
  have h1 := unseen_le l ([] : List α)
  have h2 := ofL_le l a
  have := Nat.mul_le_mul_right (l.length + 1) h1
  omega
theorem meas_skip (l : List (α × α)) (S T : List α) (x : α) : meas l S T < meas l S (T ++ [x]) := by unfold meas; rw [List.length_append]; simp
theorem meas_take {l : List (α × α)} {S T : List α} {x : α} (hx : x ∉ S) (hl : ∃ u, (u, x) ∈ l) : meas l (x :: S) (T ++ ofL l x) < meas l S (T ++ [x]) := by
  have h1 := unseen_less (S := S) (S' := x :: S) (fun y hy => List.mem_cons_of_mem _ hy) hx (List.mem_cons_self ..) hl
  have h2 := ofL_le l x
  unfold meas
  rw [List.length_append, List.length_append]
  have h3 := Nat.mul_le_mul_right (l.length + 1) h1
  rw [Nat.add_mul, Nat.one_mul] at h3
  simp only [List.length_cons, List.length_nil]
  omega
/-- the reference's passes -/
def add (a : α) (out : List α) (e : α × α) : List α := if (e.1 = a ∨ e.1 ∈ out) ∧ e.2 ∉ out then out ++ [e.2] else out
def pass (a : α) (out : List α) (l : List (α × α)) : List α := l.foldl (add a) out
theorem add_mono {a x : α} {out : List α} {e : α × α} (h : x ∈ out) : x ∈ add a out e := by unfold add; split; exact List.mem_append_left _ h; exact h
theorem pass_mono {a x : α} : ∀ {l : List (α × α)} {out : List α}, x ∈ out → x ∈ pass a out l
  | [], _, h => h
  | e :: l, _, h => pass_mono (l := l) (add_mono (e := e) h)
theorem add_le {a : α} {out : List α} {e : α × α} : out.length ≤ (add a out e).length := by unfold add; split <;> simp
theorem pass_le {a : α} : ∀ {l : List (α × α)} {out : List α}, out.length ≤ (pass a out l).length
  | [], _ => Nat.le_refl _
  | e :: l, _ => Nat.le_trans (add_le (a := a) (e := e)) (pass_le (l := l))
theorem pass_snoc (a : α) (out : List α) (l : List (α × α)) (e : α × α) : pass a out (l ++ [e]) = add a (pass a out l) e := by unfold pass; rw [List.foldl_append]; rfl
theorem add_way {L : List (α × α)} {a : α} {out : List α} {e : α × α} (he : e ∈ L) (h : ∀ x ∈ out, Leads L a x) : ∀ x ∈ add a out e, Leads L a x := by
  unfold add
  split
  · rename_i hc
    intro x hx
    rw [List.mem_append, List.mem_singleton] at hx
    rcases hx with hx | rfl
    · exact h x hx
    · rcases hc.1 with h1 | h1
      · exact .one (h1 ▸ he)
      · exact (h _ h1).trans (.one he)
  · exact h
theorem pass_way {L : List (α × α)} {a : α} : ∀ {l : List (α × α)} {out : List α}, (∀ e ∈ l, e ∈ L) → (∀ x ∈ out, Leads L a x) → ∀ x ∈ pass a out l, Leads L a x
  | [], _, _, h => h
  | e :: l, _, hl, h => pass_way (l := l) (fun e he => hl e (List.mem_cons_of_mem _ he)) (add_way (hl e (List.mem_cons_self ..)) h)
theorem add_same {a : α} {out : List α} {e : α × α} (h : (add a out e).length = out.length) : add a out e = out ∧ ((e.1 = a ∨ e.1 ∈ out) → e.2 ∈ out) := by
  unfold add at h ⊢
  by_cases hc : (e.1 = a ∨ e.1 ∈ out) ∧ e.2 ∉ out
  · rw [if_pos hc] at h; simp at h
  · rw [if_neg hc]
    exact ⟨rfl, fun h1 => Decidable.byContradiction fun h2 => hc ⟨h1, h2⟩⟩
theorem pass_same {a : α} : ∀ {l : List (α × α)} {out : List α}, (pass a out l).length = out.length → pass a out l = out ∧ ∀ e ∈ l, (e.1 = a ∨ e.1 ∈ out) → e.2 ∈ out
  | [], _, _ => ⟨rfl, by simp⟩
  | e :: l, out, h => by
    have h1 := add_le (a := a) (out := out) (e := e)
    have h2 := pass_le (a := a) (l := l) (out := add a out e)
    have h3 : (pass a (add a out e) l).length = out.length := h
    have ha := add_same (a := a) (out := out) (e := e) (by omega)
    have hp := pass_same (a := a) (l := l) (out := add a out e) (by omega)
    refine ⟨hp.1.trans ha.1, fun e' he => ?_⟩
    rcases List.mem_cons.1 he with rfl | he
    · exact ha.2
    · have := hp.2 e' he; rw [ha.1] at this; exact this
theorem pass_end {L : List (α × α)} {a : α} {out : List α} (hw : ∀ x ∈ out, Leads L a x) (h : (pass a out L).length = out.length) (x : α) : x ∈ out ↔ Leads L a x :=
  ⟨hw x, fun k => way_stays (fun y => y ∈ out) (fun _ hy => (pass_same h).2 _ hy (.inl rfl)) (fun _ hu _ hy => (pass_same h).2 _ hy (.inr hu)) k⟩
/-- what is among the list's targets, each once, is no more than the edges -/
theorem add_unseen {L : List (α × α)} {a : α} {out : List α} {e : α × α} (he : e ∈ L) (h : out.length + unseen L out ≤ L.length) : (add a out e).length + unseen L (add a out e) ≤ L.length := by
  unfold add
  split
  · rename_i hc
    have := unseen_less (S := out) (S' := out ++ [e.2]) (l := L) (fun y hy => List.mem_append_left _ hy) hc.2 (by simp) ⟨e.1, he⟩
    rw [List.length_append]; simp only [List.length_cons, List.length_nil]; omega
  · exact h
theorem pass_unseen {L : List (α × α)} {a : α} : ∀ {l : List (α × α)} {out : List α}, (∀ e ∈ l, e ∈ L) → out.length + unseen L out ≤ L.length → (pass a out l).length + unseen L (pass a out l) ≤ L.length
  | [], _, _, h => h
  | e :: l, _, hl, h => pass_unseen (l := l) (fun e he => hl e (List.mem_cons_of_mem _ he)) (add_unseen (hl e (List.mem_cons_self ..)) h)
end Go.Proofs.Ythelkkbjflohgaa.Gr
