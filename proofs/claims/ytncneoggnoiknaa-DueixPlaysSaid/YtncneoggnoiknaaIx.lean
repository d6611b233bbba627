/- How an index lies in memory: its two cells, the row of its short lists, the stretches of these. -/
import Derived.Test.YtncneoggnoiknaaProg
import Derived.Test.YtncneoggnoiknaaJb
import Derived.Test.YtncneoggnoiknaaMe
import Derived.Test.YtncneoggnoiknaaUt
namespace Go.Proofs.Ytncneoggnoiknaa.Du
open Go.RowKit Sp Ut Me
/-- the cells of entries -/
def cellsE (es : List E) : List Value := es.flatMap fun e => [.int .i64 e.1, .string e.2]
theorem cellsE_len (es : List E) : (cellsE es).length = es.length * 2 := by
  unfold cellsE
  induction es with
  | nil => rfl
  | cons e es ih => simp only [List.flatMap_cons, List.length_append, ih, List.length_cons, List.length_nil]; omega
theorem cellsE_append (a b : List E) : cellsE (a ++ b) = cellsE a ++ cellsE b := by unfold cellsE; rw [List.flatMap_append]
theorem cellsE_one (es : List E) : ∀ u ∈ cellsE es, u.oneCell' = true := by
  intro u hu
  unfold cellsE at hu
  obtain ⟨e, _, he⟩ := List.mem_flatMap.1 hu
  simp only [List.mem_cons, List.not_mem_nil, or_false] at he
  rcases he with rfl | rfl <;> rfl
theorem cellsE_take (es : List E) (k : Nat) : (cellsE es).take (k * 2) = cellsE (es.take k) := by
  induction es generalizing k with
  | nil => simp [cellsE]
  | cons e es ih =>
    cases k with
    | zero => rfl
    | succ k =>
      have hc : cellsE (e :: es) = .int .i64 e.1 :: .string e.2 :: cellsE es := rfl
      have e1 : (k + 1) * 2 = k * 2 + 1 + 1 := by omega
      rw [List.take_succ_cons, hc, e1, List.take_succ_cons, List.take_succ_cons, ih]
      rfl
theorem cellsE_drop (es : List E) (k : Nat) : (cellsE es).drop (k * 2) = cellsE (es.drop k) := by
  induction es generalizing k with
  | nil => simp [cellsE]
  | cons e es ih =>
    cases k with
    | zero => rfl
    | succ k =>
      have hc : cellsE (e :: es) = .int .i64 e.1 :: .string e.2 :: cellsE es := rfl
      have e1 : (k + 1) * 2 = k * 2 + 1 + 1 := by omega
      rw [List.drop_succ_cons, hc, e1, List.drop_succ_cons, List.drop_succ_cons, ih]
theorem cellsE_get (es : List E) : ∀ h (hh : h < es.length), (cellsE es)[h * 2]? = some (.int .i64 es[h].1) ∧ (cellsE es)[h * 2 + 1]? = some (.string es[h].2) := by
  induction es with
  | nil => intro h hh; simp at hh
  | cons e es ih =>
    intro h hh
    have hc : cellsE (e :: es) = .int .i64 e.1 :: .string e.2 :: cellsE es := rfl
    cases h with
    | zero => exact ⟨rfl, rfl⟩
    | succ h =>
      have e1 : (h + 1) * 2 = h * 2 + 1 + 1 := by omega
      rw [hc, e1, List.getElem?_cons_succ, List.getElem?_cons_succ, List.getElem_cons_succ, List.getElem?_cons_succ, List.getElem?_cons_succ]
      exact ih h (by simpa using hh)
theorem cellsE_ins (es : List E) (i : Nat) (e : E) : (cellsE es).take (i * 2) ++ [.int .i64 e.1, .string e.2] ++ (cellsE es).drop (i * 2) = cellsE (es.take i ++ e :: es.drop i) := by
  rw [cellsE_take, cellsE_drop, cellsE_append, List.append_assoc]; rfl
theorem cellsE_del (es : List E) (i : Nat) : (cellsE es).take (i * 2) ++ (cellsE es).drop ((i + 1) * 2) = cellsE (es.take i ++ es.drop (i + 1)) := by
  rw [cellsE_take, cellsE_drop, cellsE_append]
/-- the cells one by one, as entries -/
theorem held_ents {w : World} {e : TypeId} {b lo hi : Nat} {es : List E} (h : Held w e b lo hi (cellsE es)) : ∀ k (hk : k < es.length), w.cell? ⟨b, lo + k * 2, none⟩ = some (.int .i64 es[k].1) ∧ w.cell? ⟨b, lo + k * 2 + 1, none⟩ = some (.string es[k].2) := by
  intro k hk
  obtain ⟨a1, a2⟩ := cellsE_get es k hk
  exact ⟨h.cell _ _ a1, by rw [Nat.add_assoc]; exact h.cell _ _ a2⟩
/-- a short list: its stretch, its entries -/
structure Sg where
  b : Nat
  o : Nat
  c : Nat
  es : List E
def Sg.val (s : Sg) : Value := .slice (some ⟨s.b, s.o, none⟩) s.es.length s.c
/-- it lies in memory -/
def SgAt (w : World) (s : Sg) : Prop := Held w 29 s.b s.o (s.o + s.c * 2) (cellsE s.es) ∧ s.c ≤ 9223372036854775807
/-- two stretches that do not meet -/
def Apart (s t : Sg) : Prop := s.b ≠ t.b ∨ s.o + s.c * 2 ≤ t.o ∨ t.o + t.c * 2 ≤ s.o
theorem Apart.symm {s t : Sg} (h : Apart s t) : Apart t s := by
  unfold Apart at *
  rcases h with h | h | h
  · exact .inl (Ne.symm h)
  · exact .inr (.inr h)
  · exact .inr (.inl h)
def ess (SS : List Sg) : List (List E) := SS.map fun s => s.es
def allE (SS : List Sg) : List E := (ess SS).flatten
/-- an index: at block p, its lists' slice v, the short lists SS -/
structure Idx (w : World) (p : Nat) (v : Value) (SS : List Sg) : Prop where
  ptr : w.heap[p]? = some (.cells #[v, .int .i64 (allE SS).length] 55 (0, 0))
  lists : w.ownsRow 0 43 1 v SS.length (SS.map Sg.val)
  segs : ∀ s ∈ SS, SgAt w s
  apart : SS.Pairwise Apart
  ok : Ok (ess SS)
/-- the blocks of an index -/
def Own (p : Nat) (v : Value) (SS : List Sg) (k : Nat) : Prop := k = p ∨ v.ownBlock = some k ∨ ∃ s ∈ SS, s.b = k
/-- an index turned: outside its blocks nothing has; its blocks are old ones of it, or new -/
structure Moved (O O' : Nat → Prop) (w w' : World) : Prop where
  os : w'.os = w.os
  tape : w'.tape = w.tape
  output : w'.output = w.output
  size : w.heap.size ≤ w'.heap.size
  block : ∀ k, k < w.heap.size → ¬ O k → w'.heap[k]? = w.heap[k]?
  own : ∀ k, O' k → O k ∨ w.heap.size ≤ k
theorem ownsRow_below {w w' : World} {base E sz : Nat} {v : Value} {n : Nat} {xs : List Value} (h : w.ownsRow base E sz v n xs) (hb : Below w.heap.size w w') : w'.ownsRow base E sz v n xs := by
  refine ⟨h.1, ?_⟩
  rcases h.2 with h2 | ⟨g, cap, cur, h1, h2, h3, h4⟩
  · exact .inl h2
  · exact .inr ⟨g, cap, cur, h1, h2, (hb.block g (lt_of h3)).trans h3, h4⟩
section
variable {w w' : World} {p : Nat} {v : Value} {SS : List Sg}
theorem Idx.below (h : Idx w p v SS) (hb : Below w.heap.size w w') : Idx w' p v SS :=
  ⟨(hb.block p (lt_of h.ptr)).trans h.ptr, ownsRow_below h.lists hb, fun s hs => ⟨(h.segs s hs).1.of_below hb (h.segs s hs).1.lt, (h.segs s hs).2⟩, h.apart, h.ok⟩
theorem Idx.plt (h : Idx w p v SS) : p < w.heap.size := lt_of h.ptr
theorem Idx.own_lt (h : Idx w p v SS) : ∀ k, Own p v SS k → k < w.heap.size := by
  rintro k (rfl | hk | ⟨s, hs, rfl⟩)
  · exact h.plt
  · exact (h.lists.lt k hk).2
  · exact (h.segs s hs).1.lt
/-- the slice of the lists, where there is one -/
theorem Idx.row (h : Idx w p v SS) (hne : SS ≠ []) : ∃ g cap cur, v = .slice (some ⟨g, 0, none⟩) SS.length cap ∧ w.heap[g]? = some (.cells cur 43 (0, 0)) ∧ cur.size = cap ∧ SS.length ≤ cap ∧ cap ≤ 9223372036854775807 ∧
    Held w 43 g 0 cap (SS.map Sg.val) := by
  obtain ⟨h0, h1⟩ := h.lists
  rcases h1 with ⟨_, h2⟩ | ⟨g, cap, cur, rfl, _, h3, h4, h5, h6, h7⟩
  · exact absurd (List.length_eq_zero_iff.1 h2) hne
  · unfold maxLen at h5
    refine ⟨g, cap, cur, rfl, h3, by omega, h4, h5, cur, h3, by omega, by rw [List.length_map]; omega, fun j u hu => ?_⟩
    rw [← h7, List.getElem?_take] at hu
    split at hu
    · simpa using hu
    · cases hu
theorem all_pos (hO : Ok (ess SS)) : SS.length ≤ (allE SS).length := by
  unfold allE
  rw [List.length_flatten]
  have : ∀ LL : List (List E), (∀ l ∈ LL, l ≠ []) → LL.length ≤ (LL.map List.length).sum := by
    intro LL
    induction LL with
    | nil => intro _; simp
    | cons l LL ih =>
      intro hl
      have h1 := ih fun x hx => hl x (List.mem_cons_of_mem _ hx)
      have h2 : 0 < l.length := List.length_pos_iff.2 (hl l List.mem_cons_self)
      simp only [List.length_cons, List.map_cons, List.sum_cons]; omega
  have := this (ess SS) hO.2
  unfold ess at *
  simpa using this
theorem es_le {s : Sg} (hs : s ∈ SS) : s.es.length ≤ (allE SS).length := by
  exact (List.sublist_flatten_of_mem (List.mem_map.2 ⟨s, hs, rfl⟩)).length_le
theorem es_ne (hO : Ok (ess SS)) {s : Sg} (hs : s ∈ SS) : s.es ≠ [] := hO.2 _ (List.mem_map.2 ⟨s, hs, rfl⟩)
end
end Go.Proofs.Ytncneoggnoiknaa.Du
