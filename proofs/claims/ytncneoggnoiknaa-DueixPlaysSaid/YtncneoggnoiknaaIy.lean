/- What an index is behind each step that turns it: the count, a short list in place or moved, one more list, one list less. -/
import Derived.Test.YtncneoggnoiknaaIx
namespace Go.Proofs.Ytncneoggnoiknaa.Du
open Go.RowKit Sp Ut Me
/-- the memory of an index, whatever its count says -/
structure Mem (w : World) (p : Nat) (v : Value) (n : Int) (SS : List Sg) : Prop where
  ptr : w.heap[p]? = some (.cells #[v, .int .i64 n] 55 (0, 0))
  lists : w.ownsRow 0 43 1 v SS.length (SS.map Sg.val)
  segs : ∀ s ∈ SS, SgAt w s
  apart : SS.Pairwise Apart
theorem Idx.mem {w : World} {p : Nat} {v : Value} {SS : List Sg} (h : Idx w p v SS) : Mem w p v (allE SS).length SS := ⟨h.ptr, h.lists, h.segs, h.apart⟩
theorem Idx.of_mem {w : World} {p : Nat} {v : Value} {SS : List Sg} (h : Mem w p v (allE SS).length SS) (hO : Ok (ess SS)) : Idx w p v SS := ⟨h.ptr, h.lists, h.segs, h.apart, hO⟩
theorem heap_set {w : World} {b : Nat} {cur : Array Value} {e : TypeId} {fr : Nat × Nat} (h : w.heap[b]? = some (.cells cur e fr)) (o : Nat) (u : Value) : (w.setCell ⟨b, o, none⟩ u).heap[b]? = some (.cells (cur.setIfInBounds o u) e fr) := by
  simp only [World.setCell, Array.getElem?_modify]
  simp [h]
section
variable {w w' w'' : World} {p : Nat} {v v' : Value} {n : Int} {SS : List Sg} {O O' O'' : Nat → Prop}
theorem Moved.trans (h : Moved O O' w w') (k : Moved O' O'' w' w'') : Moved O O'' w w'' := by
  refine ⟨k.os.trans h.os, k.tape.trans h.tape, k.output.trans h.output, Nat.le_trans h.size k.size, fun i hi hO => ?_, fun i hi => ?_⟩
  · refine (k.block i (Nat.lt_of_lt_of_le hi h.size) fun hO' => ?_).trans (h.block i hi hO)
    rcases h.own i hO' with h1 | h1
    · exact hO h1
    · omega
  · rcases k.own i hi with h1 | h1
    · exact h.own i h1
    · exact .inr (Nat.le_trans h.size h1)
theorem Moved.of_below (h : Below w.heap.size w w') : Moved O O w w' := ⟨h.os, h.tape, h.output, h.size, fun k hk _ => h.block k hk, fun _ h => .inl h⟩
theorem Moved.setCell (a : Addr) (u : Value) (ha : O a.block) : Moved O O w (w.setCell a u) :=
  ⟨rfl, rfl, rfl, by simp [World.setCell], fun k _ hO => Below.heap_setCell _ _ _ _ (fun e => hO (e ▸ ha)), fun _ h => .inl h⟩
theorem Moved.inReg {b lo hi : Nat} (h : InReg b lo hi w w') (hb : O b) : Moved O O w w' :=
  ⟨h.os, h.tape, h.output, h.size, fun k hk hO => h.block k hk (fun e => hO (e ▸ hb)), fun _ h => .inl h⟩
theorem Moved.weak (h : Moved O O' w w') (hO : ∀ k, O'' k → O' k ∨ w.heap.size ≤ k) : Moved O O'' w w' :=
  ⟨h.os, h.tape, h.output, h.size, h.block, fun k hk => by
    rcases hO k hk with h1 | h1
    · exact h.own k h1
    · exact .inr h1⟩
theorem Mem.below (h : Mem w p v n SS) (hb : Below w.heap.size w w') : Mem w' p v n SS :=
  ⟨(hb.block p (lt_of h.ptr)).trans h.ptr, ownsRow_below h.lists hb, fun s hs => ⟨(h.segs s hs).1.of_below hb (h.segs s hs).1.lt, (h.segs s hs).2⟩, h.apart⟩
theorem Mem.p_seg (h : Mem w p v n SS) {s : Sg} (hs : s ∈ SS) : s.b ≠ p := by
  obtain ⟨⟨cur, h1, _⟩, _⟩ := h.segs s hs
  rintro rfl
  have := h1.symm.trans h.ptr
  simp at this
theorem own_row {g c m : Nat} {xs : List Value} (h : w.ownsRow 0 43 1 (.slice (some ⟨g, 0, none⟩) m c) m xs) : ∃ cur, w.heap[g]? = some (.cells cur 43 (0, 0)) ∧ cur.size = c ∧ m ≤ c ∧ c ≤ 9223372036854775807 ∧ cur.toList.take m = xs := by
  rcases h.2 with ⟨h1, _⟩ | ⟨g', c', cur, h1, _, h3, h4, h5, h6, h7⟩
  · cases h1
  · cases h1
    unfold maxLen at h5
    exact ⟨cur, h3, by omega, h4, h5, by rwa [Nat.mul_one] at h7⟩
theorem own_blk (h : Mem w p v n SS) {g : Nat} (hg : v.ownBlock = some g) : ∃ cur, w.heap[g]? = some (.cells cur 43 (0, 0)) := by
  rcases h.lists.2 with ⟨h1, _⟩ | ⟨g', c', cur, h1, _, h3, _⟩
  · rw [h1] at hg; cases hg
  · rw [h1] at hg; cases hg
    exact ⟨cur, h3⟩
theorem Mem.g_seg (h : Mem w p v n SS) {g : Nat} (hg : v.ownBlock = some g) {s : Sg} (hs : s ∈ SS) : s.b ≠ g := by
  obtain ⟨⟨cur, h1, _⟩, _⟩ := h.segs s hs
  obtain ⟨cur', h2⟩ := own_blk h hg
  rintro rfl
  have := h1.symm.trans h2
  simp at this
theorem Mem.p_g (h : Mem w p v n SS) {g : Nat} (hg : v.ownBlock = some g) : p ≠ g := by
  obtain ⟨cur', h2⟩ := own_blk h hg
  rintro rfl
  have := h.ptr.symm.trans h2
  simp at this
theorem row_kept {b lo hi m : Nat} {xs : List Value} (h : w.ownsRow 0 43 1 v m xs) (k : InReg b lo hi w w') (hne : v.ownBlock ≠ some b) : w'.ownsRow 0 43 1 v m xs := by
  refine ⟨h.1, ?_⟩
  rcases h.2 with h2 | ⟨g, cap, cur, rfl, h2, h3, h4⟩
  · exact .inl h2
  · refine .inr ⟨g, cap, cur, rfl, h2, (k.block g (lt_of h3) fun e => hne ?_).trans h3, h4⟩
    rw [← e]; rfl
/-- a cell of the index's own block is written -/
theorem Mem.count (h : Mem w p v n SS) (n' : Int) : Mem (w.setCell ⟨p, 1, none⟩ (.int .i64 n')) p v n' SS := by
  have k : InReg p 1 2 w (w.setCell ⟨p, 1, none⟩ (.int .i64 n')) := InReg.setCell w (by omega) (by omega) _
  refine ⟨(heap_set h.ptr 1 _).trans (by simp), row_kept h.lists k fun e => h.p_g e rfl, fun s hs => ⟨(h.segs s hs).1.kept k (.inl (h.p_seg hs)), (h.segs s hs).2⟩, h.apart⟩
theorem Apart.sym {s t : Sg} : Apart s t → Apart t s := Apart.symm
theorem Apart.new {s t : Sg} (h1 : w.heap.size ≤ s.b) (h2 : t.b < w.heap.size) : Apart s t := .inl (by omega)
/-- the world behind an insertion or a deletion within a short list: what stays -/
theorem Mem.during {pre post : List Sg} {s : Sg} (h : Mem w p v n (pre ++ s :: post)) (k : InReg s.b s.o (s.o + s.c * 2) w w') :
    w'.heap[p]? = some (.cells #[v, .int .i64 n] 55 (0, 0)) ∧ w'.ownsRow 0 43 1 v (pre ++ s :: post).length ((pre ++ s :: post).map Sg.val) ∧ ∀ x ∈ pre ++ post, SgAt w' x := by
  have hs : s ∈ pre ++ s :: post := List.mem_append_right _ List.mem_cons_self
  refine ⟨(k.block p (lt_of h.ptr) (h.p_seg hs).symm).trans h.ptr, row_kept h.lists k fun e => h.g_seg e hs rfl, fun x hx => ?_⟩
  have hp := (List.pairwise_middle Apart.sym).1 h.apart
  have hx' : x ∈ pre ++ s :: post := by
    rcases List.mem_append.1 hx with hx | hx
    · exact List.mem_append_left _ hx
    · exact List.mem_append_right _ (List.mem_cons_of_mem _ hx)
  have ha := (List.pairwise_cons.1 hp).1 x hx
  refine ⟨(h.segs x hx').1.kept k ?_, (h.segs x hx').2⟩
  rcases ha with ha | ha | ha
  · exact .inl (Ne.symm ha)
  · exact .inr (.inr ha)
  · exact .inr (.inl ha)
theorem set_map (pre post : List Sg) (s s' : Sg) : ((pre ++ s :: post).map Sg.val).set pre.length s'.val = (pre ++ s' :: post).map Sg.val := by
  simp
/-- a row of which one cell is written -/
theorem row_set {g c m i : Nat} {xs : List Value} (h : w.ownsRow 0 43 1 (.slice (some ⟨g, 0, none⟩) m c) m xs) (u : Value) :
    (w.setCell ⟨g, i, none⟩ u).ownsRow 0 43 1 (.slice (some ⟨g, 0, none⟩) m c) m (xs.set i u) := by
  obtain ⟨cur, h1, h2, h3, h4, h5⟩ := own_row h
  refine ⟨by rw [List.length_set]; exact h.1, .inr ⟨g, c, _, rfl, Nat.zero_le _, heap_set h1 i u, h3, by unfold maxLen; omega, by rw [Array.size_setIfInBounds]; omega, ?_⟩⟩
  rw [Nat.mul_one, Array.toList_setIfInBounds, ← h5, List.take_set]
/-- A SHORT LIST IS PUT IN THE PLACE OF ANOTHER. -/
theorem Mem.put {pre post : List Sg} {s s' : Sg} {g c m : Nat} (h : Mem w p (.slice (some ⟨g, 0, none⟩) m c) n (pre ++ s :: post)) (hm : m = (pre ++ s :: post).length) (k : InReg s.b s.o (s.o + s.c * 2) w w') (hs' : SgAt w' s')
    (hn : (s'.b = s.b ∧ s.o ≤ s'.o ∧ s'.o + s'.c * 2 ≤ s.o + s.c * 2) ∨ w.heap.size ≤ s'.b) :
    Mem (w'.setCell ⟨g, pre.length, none⟩ s'.val) p (.slice (some ⟨g, 0, none⟩) m c) n (pre ++ s' :: post) ∧
      Moved (Own p (.slice (some ⟨g, 0, none⟩) m c) (pre ++ s :: post)) (Own p (.slice (some ⟨g, 0, none⟩) m c) (pre ++ s' :: post)) w (w'.setCell ⟨g, pre.length, none⟩ s'.val) := by
  obtain ⟨d1, d2, d3⟩ := h.during k
  have hs : s ∈ pre ++ s :: post := List.mem_append_right _ List.mem_cons_self
  have hgp := h.p_g (g := g) rfl
  have kk : InReg g pre.length (pre.length + 1) w' (w'.setCell ⟨g, pre.length, none⟩ s'.val) := InReg.setCell w' (Nat.le_refl _) (by omega) _
  have gseg : ∀ x ∈ pre ++ post, x.b ≠ g := fun x hx => h.g_seg (g := g) rfl (by
    rcases List.mem_append.1 hx with hx | hx
    · exact List.mem_append_left _ hx
    · exact List.mem_append_right _ (List.mem_cons_of_mem _ hx))
  have sg : s'.b ≠ g := by
    rcases hn with ⟨h1, _⟩ | h1
    · rw [h1]; exact h.g_seg (g := g) rfl hs
    · obtain ⟨cur, h2⟩ := own_blk h (g := g) rfl
      have := lt_of h2
      omega
  have hlen : (pre ++ s' :: post).length = m := by rw [hm]; simp
  rw [← hm] at d2
  have hp := (List.pairwise_middle Apart.sym).1 h.apart
  refine ⟨⟨?_, ?_, ?_, ?_⟩, ?_⟩
  · exact (kk.block p (lt_of d1) hgp).trans d1
  · have := row_set (i := pre.length) d2 s'.val
    rw [set_map] at this
    rw [hlen]; exact this
  · intro x hx
    rcases List.mem_append.1 hx with hx | hx
    · have hx' := List.mem_append_left post hx
      exact ⟨(d3 x hx').1.kept kk (.inl (gseg x hx')), (d3 x hx').2⟩
    · rcases List.mem_cons.1 hx with rfl | hx
      · exact ⟨hs'.1.kept kk (.inl sg), hs'.2⟩
      · have hx' := List.mem_append_right pre hx
        exact ⟨(d3 x hx').1.kept kk (.inl (gseg x hx')), (d3 x hx').2⟩
  · refine (List.pairwise_middle Apart.sym).2 (List.pairwise_cons.2 ⟨fun x hx => ?_, (List.pairwise_cons.1 hp).2⟩)
    have ha := (List.pairwise_cons.1 hp).1 x hx
    rcases hn with ⟨h1, h2, h3⟩ | h1
    · unfold Apart at ha ⊢
      rw [h1]
      rcases ha with ha | ha | ha
      · exact .inl ha
      · exact .inr (.inl (by omega))
      · exact .inr (.inr (by omega))
    · have hx' : x ∈ pre ++ s :: post := by
        rcases List.mem_append.1 hx with hx | hx
        · exact List.mem_append_left _ hx
        · exact List.mem_append_right _ (List.mem_cons_of_mem _ hx)
      exact Apart.new h1 (h.segs x hx').1.lt
  · have m1 : Moved (Own p (.slice (some ⟨g, 0, none⟩) m c) (pre ++ s :: post)) (Own p (.slice (some ⟨g, 0, none⟩) m c) (pre ++ s :: post)) w w' := Moved.inReg k (.inr (.inr ⟨s, hs, rfl⟩))
    refine (m1.trans (Moved.setCell ⟨g, pre.length, none⟩ s'.val (.inr (.inl rfl)))).weak ?_
    rintro q (hq | hq | ⟨x, hx, rfl⟩)
    · exact .inl (.inl hq)
    · exact .inl (.inr (.inl hq))
    · rcases List.mem_append.1 hx with hx | hx
      · exact .inl (.inr (.inr ⟨x, List.mem_append_left _ hx, rfl⟩))
      · rcases List.mem_cons.1 hx with rfl | hx
        · rcases hn with ⟨h1, _⟩ | h1
          · exact .inl (.inr (.inr ⟨s, hs, h1.symm⟩))
          · exact .inr h1
        · exact .inl (.inr (.inr ⟨x, List.mem_append_right _ (List.mem_cons_of_mem _ hx), rfl⟩))
theorem row_of_held {g c m : Nat} {xs : List Value} (h : Held w 43 g 0 (0 + c * 1) xs) {cur : Array Value} (hc : w.heap[g]? = some (.cells cur 43 (0, 0))) (hs : cur.size = c) (hm : xs.length = m) (h1 : m ≤ c) (h2 : c ≤ 9223372036854775807) :
    w.ownsRow 0 43 1 (.slice (some ⟨g, 0, none⟩) m c) m xs := by
  obtain ⟨cur', a1, a2, a3, a4⟩ := h
  obtain rfl : cur' = cur := by
    have := a1.symm.trans hc
    simpa using this
  refine ⟨by omega, .inr ⟨g, c, cur', rfl, Nat.zero_le _, hc, h1, by unfold maxLen; omega, by omega, ?_⟩⟩
  apply List.ext_getElem?
  intro j
  rw [List.getElem?_take, Nat.mul_one]
  by_cases hj : j < m
  · rw [if_pos hj]
    have := a4 j (xs[j]'(by omega)) (List.getElem?_eq_getElem (by omega))
    rw [Nat.zero_add] at this
    rw [List.getElem?_eq_getElem (by omega : j < xs.length)]
    simpa using this
  · rw [if_neg hj, List.getElem?_eq_none (by omega)]
theorem held_of_row {g c m : Nat} {xs : List Value} (h : w.ownsRow 0 43 1 (.slice (some ⟨g, 0, none⟩) m c) m xs) : Held w 43 g 0 (0 + c * 1) xs := by
  obtain ⟨cur, h1, h2, h3, h4, h5⟩ := own_row h
  have h0 := h.1
  refine ⟨cur, h1, by omega, by omega, fun j u hu => ?_⟩
  rw [← h5, List.getElem?_take] at hu
  split at hu
  · simpa using hu
  · cases hu
/-- the world behind an insertion or a deletion among the lists: what stays -/
theorem Mem.among {g c m : Nat} (h : Mem w p (.slice (some ⟨g, 0, none⟩) m c) n SS) (k : InReg g 0 (0 + c * 1) w w') :
    w'.heap[p]? = some (.cells #[.slice (some ⟨g, 0, none⟩) m c, .int .i64 n] 55 (0, 0)) ∧ ∀ x ∈ SS, SgAt w' x :=
  ⟨(k.block p (lt_of h.ptr) (h.p_g rfl)).trans h.ptr, fun x hx => ⟨(h.segs x hx).1.kept k (.inl (h.g_seg rfl hx)), (h.segs x hx).2⟩⟩
/-- the first cell of an index is written: another slice of lists -/
theorem Mem.turn {w3 : World} {SS' : List Sg} (h1 : w3.heap[p]? = some (.cells #[v, .int .i64 n] 55 (0, 0))) (hl : w3.ownsRow 0 43 1 v' SS'.length (SS'.map Sg.val)) (hp : v'.ownBlock ≠ some p)
    (hs : ∀ s ∈ SS', SgAt w3 s) (hsp : ∀ s ∈ SS', s.b ≠ p) (ha : SS'.Pairwise Apart) : Mem (w3.setCell ⟨p, 0, none⟩ v') p v' n SS' := by
  have k : InReg p 0 1 w3 (w3.setCell ⟨p, 0, none⟩ v') := InReg.setCell w3 (by omega) (by omega) _
  exact ⟨(heap_set h1 0 _).trans (by simp), row_kept hl k hp, fun s hx => ⟨(hs s hx).1.kept k (.inl (hsp s hx)), (hs s hx).2⟩, ha⟩
/-- ONE LIST MORE. -/
theorem Mem.more {pre post : List Sg} {r : Sg} {g c m b' o' c' : Nat} (h : Mem w p (.slice (some ⟨g, 0, none⟩) m c) n (pre ++ post)) (hm : m = (pre ++ post).length) (hr : SgAt w r) (hap : ∀ x ∈ pre ++ post, Apart r x)
    (k : InReg g 0 (0 + c * 1) w w') (hH : Held w' 43 b' o' (o' + c' * 1) (((pre ++ post).map Sg.val).take pre.length ++ [r.val] ++ ((pre ++ post).map Sg.val).drop pre.length)) (h1 : m + 1 ≤ c') (h2 : c' ≤ 9223372036854775807)
    (hw : (b' = g ∧ o' = 0 ∧ c' = c) ∨ (w.heap.size ≤ b' ∧ o' = 0 ∧ ∃ cur, w'.heap[b']? = some (.cells cur 43 (0, 0)) ∧ cur.size = c' * 1)) (hro : Own p (.slice (some ⟨g, 0, none⟩) m c) (pre ++ post) r.b ∨ w.heap.size ≤ r.b) :
    Mem (w'.setCell ⟨p, 0, none⟩ (.slice (some ⟨b', o', none⟩) (m + 1) c')) p (.slice (some ⟨b', o', none⟩) (m + 1) c') n (pre ++ r :: post) ∧
      Moved (Own p (.slice (some ⟨g, 0, none⟩) m c) (pre ++ post)) (Own p (.slice (some ⟨b', o', none⟩) (m + 1) c') (pre ++ r :: post)) w (w'.setCell ⟨p, 0, none⟩ (.slice (some ⟨b', o', none⟩) (m + 1) c')) := by
  obtain ⟨d1, d2⟩ := h.among k
  have hgl := h.lists
  have ho : o' = 0 := by rcases hw with ⟨_, h3, _⟩ | ⟨_, h3, _⟩ <;> exact h3
  subst ho
  have hvals : ((pre ++ post).map Sg.val).take pre.length ++ [r.val] ++ ((pre ++ post).map Sg.val).drop pre.length = (pre ++ r :: post).map Sg.val := by
    rw [← List.map_take, ← List.map_drop, List.take_left, List.drop_left]; simp
  rw [hvals] at hH
  have hlen : (pre ++ r :: post).length = m + 1 := by rw [hm]; simp; omega
  have hrow : w'.ownsRow 0 43 1 (.slice (some ⟨b', 0, none⟩) (m + 1) c') (pre ++ r :: post).length ((pre ++ r :: post).map Sg.val) := by
    rw [hlen]
    rcases hw with ⟨rfl, _, rfl⟩ | ⟨_, _, cur, q1, q2⟩
    · rw [← hm] at hgl
      obtain ⟨cur, c1, c2, -⟩ := own_row hgl
      obtain ⟨cur', e1, e2, -⟩ := k.row _ _ _ c1
      exact row_of_held hH e1 (by omega) (by rw [List.length_map]; exact hlen) h1 h2
    · exact row_of_held hH q1 (by omega) (by rw [List.length_map]; exact hlen) h1 h2
  have hbp : b' ≠ p := by
    rcases hw with ⟨rfl, _⟩ | ⟨h3, _⟩
    · exact (h.p_g rfl).symm
    · have := lt_of h.ptr; omega
  have hrp : r.b ≠ p := by
    obtain ⟨⟨cur, q1, _⟩, _⟩ := hr
    rintro rfl
    have := q1.symm.trans h.ptr
    simp at this
  have hrg : r.b ≠ g := by
    obtain ⟨⟨cur, q1, _⟩, _⟩ := hr
    obtain ⟨cur', q2⟩ := own_blk h (g := g) rfl
    rintro rfl
    have := q1.symm.trans q2
    simp at this
  have hmem : ∀ x ∈ pre ++ r :: post, x = r ∨ x ∈ pre ++ post := by
    intro x hx
    rcases List.mem_append.1 hx with hx | hx
    · exact .inr (List.mem_append_left _ hx)
    · rcases List.mem_cons.1 hx with hx | hx
      · exact .inl hx
      · exact .inr (List.mem_append_right _ hx)
  refine ⟨Mem.turn d1 hrow (fun e => hbp (Option.some.inj e)) (fun x hx => ?_) (fun x hx => ?_) ((List.pairwise_middle Apart.sym).2 (List.pairwise_cons.2 ⟨hap, h.apart⟩)), ?_⟩
  · rcases hmem x hx with rfl | hx
    · exact ⟨hr.1.kept k (.inl hrg), hr.2⟩
    · exact d2 x hx
  · rcases hmem x hx with rfl | hx
    · exact hrp
    · exact h.p_seg hx
  · refine ((Moved.inReg k (.inr (.inl rfl))).trans (Moved.setCell ⟨p, 0, none⟩ _ (.inl rfl))).weak ?_
    rintro q (hq | hq | ⟨x, hx, rfl⟩)
    · exact .inl (.inl hq)
    · cases hq
      rcases hw with ⟨rfl, _⟩ | ⟨h3, _⟩
      · exact .inl (.inr (.inl rfl))
      · exact .inr h3
    · rcases hmem x hx with rfl | hx
      · exact hro
      · exact .inl (.inr (.inr ⟨x, hx, rfl⟩))
/-- ONE LIST LESS. -/
theorem Mem.less {pre post : List Sg} {s : Sg} {g c m : Nat} (h : Mem w p (.slice (some ⟨g, 0, none⟩) m c) n (pre ++ s :: post)) (hm : m = (pre ++ s :: post).length)
    (k : InReg g 0 (0 + c * 1) w w') (hH : Held w' 43 g 0 (0 + c * 1) (((pre ++ s :: post).map Sg.val).take (pre.length * 1) ++ ((pre ++ s :: post).map Sg.val).drop ((pre.length + 1) * 1))) :
    Mem (w'.setCell ⟨p, 0, none⟩ (.slice (some ⟨g, 0, none⟩) (m - 1) c)) p (.slice (some ⟨g, 0, none⟩) (m - 1) c) n (pre ++ post) ∧
      Moved (Own p (.slice (some ⟨g, 0, none⟩) m c) (pre ++ s :: post)) (Own p (.slice (some ⟨g, 0, none⟩) (m - 1) c) (pre ++ post)) w (w'.setCell ⟨p, 0, none⟩ (.slice (some ⟨g, 0, none⟩) (m - 1) c)) := by
  obtain ⟨d1, d2⟩ := h.among k
  have hgl := h.lists
  rw [Nat.mul_one pre.length, Nat.mul_one (pre.length + 1)] at hH
  have hvals : ((pre ++ s :: post).map Sg.val).take pre.length ++ ((pre ++ s :: post).map Sg.val).drop (pre.length + 1) = (pre ++ post).map Sg.val := by
    rw [← List.map_take, ← List.map_drop, List.take_left, ← List.map_append]
    congr 2
    rw [List.drop_append, List.drop_of_length_le (by omega)]
    simp
  rw [hvals] at hH
  have hlen : (pre ++ post).length = m - 1 := by rw [hm]; simp
  rw [← hm] at hgl
  obtain ⟨cur, c1, c2, c3, c4, -⟩ := own_row hgl
  obtain ⟨cur', e1, e2, -⟩ := k.row _ _ _ c1
  have hrow : w'.ownsRow 0 43 1 (.slice (some ⟨g, 0, none⟩) (m - 1) c) (pre ++ post).length ((pre ++ post).map Sg.val) := by
    rw [hlen]
    exact row_of_held hH e1 (by omega) (by rw [List.length_map]; exact hlen) (by omega) c4
  have hmem : ∀ x ∈ pre ++ post, x ∈ pre ++ s :: post := by
    intro x hx
    rcases List.mem_append.1 hx with hx | hx
    · exact List.mem_append_left _ hx
    · exact List.mem_append_right _ (List.mem_cons_of_mem _ hx)
  refine ⟨Mem.turn d1 hrow (fun e => h.p_g rfl (Option.some.inj e).symm) (fun x hx => d2 x (hmem x hx)) (fun x hx => h.p_seg (hmem x hx)) (List.pairwise_cons.1 ((List.pairwise_middle Apart.sym).1 h.apart)).2, ?_⟩
  refine ((Moved.inReg k (.inr (.inl rfl))).trans (Moved.setCell ⟨p, 0, none⟩ _ (.inl rfl))).weak ?_
  rintro q (hq | hq | ⟨x, hx, rfl⟩)
  · exact .inl (.inl hq)
  · exact .inl (.inr (.inl hq))
  · exact .inl (.inr (.inr ⟨x, hmem x hx, rfl⟩))
end
end Go.Proofs.Ytncneoggnoiknaa.Du
