/- The plain laws of an index: what is put, one behind the other; what is behind; what is between. -/
import Derived.Test.YtncneoggnoiknaaJa
namespace Go.Proofs.Ytncneoggnoiknaa.Du
def hasE (m : List E) (e : E) : Bool := m.any fun x => decide (x = e)
theorem has_iff {m : List E} {e : E} : hasE m e = true ↔ e ∈ m := by
  unfold hasE
  rw [List.any_eq_true]
  constructor
  · rintro ⟨x, hx, h⟩
    rw [decide_eq_true_iff] at h
    rw [← h]; exact hx
  · exact fun h => ⟨e, h, decide_eq_true rfl⟩
/-- what the document's list is, once an entry is put -/
def putE (m : List E) (e : E) : List E := if hasE m e = true then m else insE m e
def puts (l : List E) : List E := l.foldl putE []
theorem sor_nil : Sor [] := List.Pairwise.nil
theorem sor_put {m : List E} (h : Sor m) (e : E) : Sor (putE m e) := by
  unfold putE
  split
  · exact h
  · rename_i he; exact sor_ins h fun hh => he (has_iff.2 hh)
theorem mem_put {m : List E} {e x : E} : x ∈ putE m e ↔ x = e ∨ x ∈ m := by
  unfold putE
  split
  · rename_i he
    constructor
    · exact .inr
    · rintro (rfl | h)
      · exact has_iff.1 he
      · exact h
  · exact mem_ins
theorem ins_length (l : List E) (e : E) : (insE l e).length = l.length + 1 := by
  have hc : cntE l e ≤ l.length := List.countP_le_length
  unfold insE
  rw [List.length_append, List.length_cons, List.length_take, List.length_drop]; omega
theorem put_length (l : List E) (e : E) : (putE l e).length ≤ l.length + 1 := by
  unfold putE
  split
  · omega
  · rw [ins_length]; omega
theorem puts_from : ∀ (l m : List E), Sor m → Sor (l.foldl putE m) ∧ (∀ x, x ∈ l.foldl putE m ↔ x ∈ m ∨ x ∈ l) ∧ (l.foldl putE m).length ≤ m.length + l.length
  | [], m, h => ⟨h, fun x => by simp, by simp⟩
  | e :: l, m, h => by
    obtain ⟨h1, h2, h3⟩ := puts_from l (putE m e) (sor_put h e)
    refine ⟨h1, fun x => ?_, ?_⟩
    · rw [List.foldl_cons, h2, mem_put, List.mem_cons, or_assoc, or_left_comm]
    · have := put_length m e
      rw [List.foldl_cons, List.length_cons]; omega
theorem puts_spec (l : List E) : Sor (puts l) ∧ (∀ x, x ∈ puts l ↔ x ∈ l) ∧ (puts l).length ≤ l.length := by
  obtain ⟨h1, h2, h3⟩ := puts_from l [] sor_nil
  exact ⟨h1, fun x => by unfold puts; rw [h2]; simp, by unfold puts; simpa using h3⟩
theorem puts_take {l : List E} {k : Nat} (hk : k < l.length) : puts (l.take (k + 1)) = putE (puts (l.take k)) l[k] := by
  unfold puts
  rw [List.take_succ_eq_append_getElem hk, List.foldl_append]; rfl
/-- how often an entry is there -/
theorem once {m : List E} (h : Sor m) {e : E} (he : e ∈ m) : m.countP (fun x => decide (x = e)) = 1 := by
  induction m with
  | nil => cases he
  | cons y m ih =>
    obtain ⟨h1, h2⟩ := List.pairwise_cons.1 h
    by_cases hy : y = e
    · subst hy
      rw [List.countP_cons_of_pos (by simp), List.countP_eq_zero.2]
      intro x hx hh
      exact less_ne (h1 x hx) (of_decide_eq_true hh).symm
    · rw [List.countP_cons_of_neg (by simp [hy])]
      rcases List.mem_cons.1 he with rfl | he
      · exact absurd rfl hy
      · exact ih h2 he
/-- the next one behind an entry that is there -/
theorem next_at {m : List E} (h : Sor m) {k : Nat} (hk : k < m.length) : m.find? (fun y => less m[k] y) = m[k + 1]? := by
  have hp := List.pairwise_iff_getElem.1 h
  have e : m.find? (fun y => less m[k] y) = (m.drop (k + 1)).head? := by
    obtain ⟨y, hy⟩ : ∃ y, y = m[k] := ⟨_, rfl⟩
    rw [← hy]
    have hsp : m.find? (fun z => less y z) = (m.take (k + 1) ++ m.drop (k + 1)).find? (fun z => less y z) := by rw [List.take_append_drop]
    rw [hsp, hy, List.find?_append, List.find?_eq_none.2]
    · rw [Option.none_or]
      cases hd2 : m.drop (k + 1) with
      | nil => rfl
      | cons y r =>
        rw [List.head?_cons, List.find?_cons_of_pos]
        have hy : m[k + 1]? = some y := by rw [← List.head?_drop, hd2]; rfl
        obtain ⟨hlt, hy⟩ := List.getElem?_eq_some_iff.1 hy
        rw [← hy]
        simpa using hp k (k + 1) hk hlt (by omega)
    · intro x hx hh
      obtain ⟨i, hi, hx⟩ := List.getElem_of_mem hx
      rw [List.length_take] at hi
      rw [List.getElem_take] at hx
      rw [← hx] at hh
      by_cases hik : i = k
      · subst hik; rw [less_irr] at hh; cases hh
      · have := less_as (hp i k (by omega) hk (by omega))
        rw [this] at hh; cases hh
  rw [e, List.head?_drop]
/-- between two times -/
def btw (a b : Int) (m : List E) : List E := m.filter fun x => decide (a ≤ x.1) && decide (x.1 < b)
theorem btw_parts {m : List E} (h : Sor m) {a b c : Int} (hab : a ≤ b) (hbc : b ≤ c) : btw a b m ++ btw b c m = btw a c m := by
  refine sor_ext ?_ (List.Pairwise.filter _ h) fun x => ?_
  · refine List.pairwise_append.2 ⟨h.filter _, h.filter _, fun x hx y hy => ?_⟩
    obtain ⟨-, hx⟩ := List.mem_filter.1 hx
    obtain ⟨-, hy⟩ := List.mem_filter.1 hy
    simp only [Bool.and_eq_true, decide_eq_true_eq] at hx hy
    unfold less
    rw [if_neg (by omega)]
    exact decide_eq_true (by omega)
  · unfold btw
    rw [List.mem_append, List.mem_filter, List.mem_filter, List.mem_filter]
    simp only [Bool.and_eq_true, decide_eq_true_eq]
    constructor
    · rintro (⟨h1, h2⟩ | ⟨h1, h2⟩)
      · exact ⟨h1, by omega⟩
      · exact ⟨h1, by omega⟩
    · rintro ⟨h1, h2⟩
      by_cases hx : x.1 < b
      · exact .inl ⟨h1, by omega⟩
      · exact .inr ⟨h1, by omega⟩
/-! ## What an index does to its short lists -/
theorem ok_flat {pre : List (List E)} {L L' : List E} {post : List (List E)} (hO : Ok (pre ++ L :: post)) (hs : Sor (pre ++ L' :: post).flatten) (hne : L' ≠ []) : Ok (pre ++ L' :: post) := by
  refine ⟨hs, fun l hl => ?_⟩
  rcases List.mem_append.1 hl with hl | hl
  · exact hO.2 l (List.mem_append_left _ hl)
  · rcases List.mem_cons.1 hl with rfl | hl
    · exact hne
    · exact hO.2 l (List.mem_append_right _ (List.mem_cons_of_mem _ hl))
theorem ok_put {pre : List (List E)} {L : List E} {post : List (List E)} {e : E} (hO : Ok (pre ++ L :: post)) (h1 : ∀ l ∈ pre, ∀ x ∈ l, less x e = true) (h2 : ∀ l ∈ post, ∀ x ∈ l, less e x = true) (he : e ∉ L) : Ok (pre ++ insE L e :: post) := by
  refine ok_flat hO ?_ (by unfold insE; simp)
  rw [← ins_place h1 h2]
  exact sor_ins hO.1 fun hh => he ((mem_place h1 h2).1 hh)
theorem ok_split {pre : List (List E)} {L : List E} {post : List (List E)} {k : Nat} (hO : Ok (pre ++ L :: post)) (h0 : 0 < k) (hk : k < L.length) : Ok (pre ++ L.take k :: L.drop k :: post) := by
  refine ⟨by rw [split_flat]; exact hO.1, fun l hl => ?_⟩
  rcases List.mem_append.1 hl with hl | hl
  · exact hO.2 l (List.mem_append_left _ hl)
  · rcases List.mem_cons.1 hl with rfl | hl
    · intro h; have := congrArg List.length h; rw [List.length_take] at this; simp only [List.length_nil] at this; omega
    · rcases List.mem_cons.1 hl with rfl | hl
      · intro h; have := congrArg List.length h; rw [List.length_drop] at this; simp only [List.length_nil] at this; omega
      · exact hO.2 l (List.mem_append_right _ (List.mem_cons_of_mem _ hl))
theorem ok_era {pre : List (List E)} {L : List E} {post : List (List E)} {e : E} (hO : Ok (pre ++ L :: post)) (h1 : ∀ l ∈ pre, ∀ x ∈ l, less x e = true) (h2 : ∀ l ∈ post, ∀ x ∈ l, less e x = true) (he : e ∈ L) :
    (eraE L e ≠ [] → Ok (pre ++ eraE L e :: post)) ∧ (eraE L e = [] → Ok (pre ++ post)) := by
  have hs : Sor L := ok_sor hO (List.mem_append_right _ List.mem_cons_self)
  have hf := filter_place h1 h2 hs he
  have hsor : Sor (pre ++ eraE L e :: post).flatten := by rw [← hf]; exact List.Pairwise.filter _ hO.1
  refine ⟨fun hne => ok_flat hO hsor hne, fun hn => ⟨by rw [hn, flat_nil] at hsor; exact hsor, fun l hl => ?_⟩⟩
  rcases List.mem_append.1 hl with hl | hl
  · exact hO.2 l (List.mem_append_left _ hl)
  · exact hO.2 l (List.mem_append_right _ (List.mem_cons_of_mem _ hl))
end Go.Proofs.Ytncneoggnoiknaa.Du
