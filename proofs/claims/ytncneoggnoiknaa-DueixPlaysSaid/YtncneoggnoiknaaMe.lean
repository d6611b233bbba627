/- Stretches of a block: what they hold, what a write into one of them leaves alone; copy, clear and append at elements of some cells: laws of no program. -/
import Derived.Below
import Derived.Deep.AppendSrc
import Derived.Lib.AppendZerosOnto
import Derived.Lib.Hide
namespace Go.Proofs.Ytncneoggnoiknaa.Me
open Go Go.RowKit
/-- a stretch of a block, of which the first cells are xs -/
def Held (w : World) (e : TypeId) (b lo hi : Nat) (xs : List Value) : Prop :=
  ∃ cur, w.heap[b]? = some (.cells cur e (0, 0)) ∧ hi ≤ cur.size ∧ lo + xs.length ≤ hi ∧ ∀ j u, xs[j]? = some u → cur[lo + j]? = some u
/-- nothing but new blocks, and cells of one stretch, has turned -/
structure InReg (b lo hi : Nat) (w w' : World) : Prop where
  os : w'.os = w.os
  tape : w'.tape = w.tape
  output : w'.output = w.output
  size : w.heap.size ≤ w'.heap.size
  block : ∀ k, k < w.heap.size → k ≠ b → w'.heap[k]? = w.heap[k]?
  row : ∀ cur e fr, w.heap[b]? = some (.cells cur e fr) → ∃ cur', w'.heap[b]? = some (.cells cur' e fr) ∧ cur'.size = cur.size ∧ ∀ j, j < lo ∨ hi ≤ j → cur'[j]? = cur[j]?
theorem cell_of {w : World} {b : Nat} {cur : Array Value} {e : TypeId} {fr : Nat × Nat} (h : w.heap[b]? = some (.cells cur e fr)) (j : Nat) : w.cell? ⟨b, j, none⟩ = cur[j]? := by
  unfold World.cell?
  rw [h]; rfl
theorem frozen_of {w : World} {b : Nat} {cur : Array Value} {e : TypeId} (h : w.heap[b]? = some (.cells cur e (0, 0))) (j : Nat) : w.frozen? ⟨b, j, none⟩ = false := by
  unfold World.frozen?
  rw [h]
  simp
theorem lt_of {w : World} {b : Nat} {o : Obj} (h : w.heap[b]? = some o) : b < w.heap.size := (Array.getElem?_eq_some_iff.1 h).1
section
variable {w w' w'' : World} {e : TypeId} {b lo hi : Nat} {xs : List Value}
theorem Held.lt (h : Held w e b lo hi xs) : b < w.heap.size := by obtain ⟨cur, h1, _⟩ := h; exact lt_of h1
theorem Held.len (h : Held w e b lo hi xs) : lo + xs.length ≤ hi := by obtain ⟨cur, _, _, h3, _⟩ := h; exact h3
theorem Held.cell (h : Held w e b lo hi xs) (j : Nat) (u : Value) (hu : xs[j]? = some u) : w.cell? ⟨b, lo + j, none⟩ = some u := by
  obtain ⟨cur, h1, h2, h3, h4⟩ := h
  rw [cell_of h1]; exact h4 j u hu
theorem Held.there (h : Held w e b lo hi xs) (j : Nat) (hj : j < hi) : (w.cell? ⟨b, j, none⟩).isSome = true := by
  obtain ⟨cur, h1, h2, h3, h4⟩ := h
  rw [cell_of h1, Array.getElem?_eq_getElem (by omega)]; rfl
theorem Held.free (h : Held w e b lo hi xs) (j : Nat) : w.frozen? ⟨b, j, none⟩ = false := by
  obtain ⟨cur, h1, _⟩ := h; exact frozen_of h1 j
theorem Held.shape (h : Held w e b lo hi xs) : ∃ n, w.shape? b = some (e, n) ∧ hi ≤ n := by
  obtain ⟨cur, h1, h2, _⟩ := h
  exact ⟨cur.size, by unfold World.shape?; rw [h1], h2⟩
theorem Held.of_below {B : Nat} (h : Held w e b lo hi xs) (hb : Below B w w') (hB : b < B) : Held w' e b lo hi xs := by
  obtain ⟨cur, h1, h2⟩ := h
  exact ⟨cur, (hb.block b hB).trans h1, h2⟩
theorem Held.take (h : Held w e b lo hi xs) (n : Nat) : Held w e b lo hi (xs.take n) := by
  obtain ⟨cur, h1, h2, h3, h4⟩ := h
  refine ⟨cur, h1, h2, by rw [List.length_take]; omega, fun j u hu => h4 j u ?_⟩
  rw [List.getElem?_take] at hu
  split at hu
  · exact hu
  · cases hu
/-- the elements from the n-th cell on, up to the same end -/
theorem Held.drop (h : Held w e b lo hi xs) (n : Nat) (hn : n ≤ xs.length) : Held w e b (lo + n) hi (xs.drop n) := by
  obtain ⟨cur, h1, h2, h3, h4⟩ := h
  refine ⟨cur, h1, h2, by rw [List.length_drop]; omega, fun j u hu => ?_⟩
  rw [List.getElem?_drop] at hu
  have := h4 _ u hu
  rwa [← Nat.add_assoc] at this
/-- cut at a lower end -/
theorem Held.cut (h : Held w e b lo hi xs) (n hi' : Nat) (h1 : hi' ≤ hi) (h2 : lo + (xs.take n).length ≤ hi') : Held w e b lo hi' (xs.take n) := by
  obtain ⟨cur, g1, g2, g3, g4⟩ := h.take n
  exact ⟨cur, g1, by omega, h2, g4⟩
theorem InReg.refl (b lo hi : Nat) (w : World) : InReg b lo hi w w := ⟨rfl, rfl, rfl, Nat.le_refl _, fun _ _ _ => rfl, fun cur _ _ h => ⟨cur, h, rfl, fun _ _ => rfl⟩⟩
theorem InReg.trans (h : InReg b lo hi w w') (k : InReg b lo hi w' w'') : InReg b lo hi w w'' := by
  refine ⟨k.os.trans h.os, k.tape.trans h.tape, k.output.trans h.output, Nat.le_trans h.size k.size, fun i hi hb => (k.block i (Nat.lt_of_lt_of_le hi h.size) hb).trans (h.block i hi hb), fun cur e fr hc => ?_⟩
  obtain ⟨c1, g1, g2, g3⟩ := h.row cur e fr hc
  obtain ⟨c2, k1, k2, k3⟩ := k.row c1 e fr g1
  exact ⟨c2, k1, k2.trans g2, fun j hj => (k3 j hj).trans (g3 j hj)⟩
theorem InReg.of_below (b lo hi : Nat) (h : Below w.heap.size w w') : InReg b lo hi w w' :=
  ⟨h.os, h.tape, h.output, h.size, fun k hk _ => h.block k hk, fun cur _ _ hc => ⟨cur, (h.block b (lt_of hc)).trans hc, rfl, fun _ _ => rfl⟩⟩
theorem InReg.drew (h : InReg b lo hi w w') : InReg b lo hi w w'.drew := ⟨h.os, h.tape, h.output, h.size, h.block, h.row⟩
theorem InReg.setCell (w : World) {o : Nat} (h1 : lo ≤ o) (h2 : o < hi) (u : Value) : InReg b lo hi w (w.setCell ⟨b, o, none⟩ u) := by
  refine ⟨rfl, rfl, rfl, by simp [World.setCell], fun k _ hb => Below.heap_setCell _ _ _ _ hb, fun cur e fr hc => ?_⟩
  refine ⟨cur.setIfInBounds o u, ?_, by simp, fun j hj => ?_⟩
  · simp only [World.setCell, Array.getElem?_modify]
    simp [hc]
  · rw [Array.getElem?_setIfInBounds, if_neg (by omega)]
theorem InReg.setCells : ∀ (vs : List Value) (o : Nat) (w : World), lo ≤ o → o + vs.length ≤ hi → InReg b lo hi w (w.setCells b o vs)
  | [], _, w, _, _ => InReg.refl _ _ _ w
  | v :: r, o, w, h1, h2 => by
    rw [List.length_cons] at h2
    exact (InReg.setCell w h1 (by omega) v).trans (InReg.setCells r (o + 1) _ (by omega) (by omega))
/-- a stretch that lies apart holds what it held -/
theorem Held.kept {b' lo' hi' : Nat} (h : Held w e b' lo' hi' xs) (k : InReg b lo hi w w') (ha : b' ≠ b ∨ hi' ≤ lo ∨ hi ≤ lo') : Held w' e b' lo' hi' xs := by
  obtain ⟨cur, h1, h2, h3, h4⟩ := h
  by_cases hb : b' = b
  · subst hb
    obtain ⟨c1, g1, g2, g3⟩ := k.row cur e (0, 0) h1
    refine ⟨c1, g1, by omega, h3, fun j u hu => ?_⟩
    have hj : j < xs.length := (List.getElem?_eq_some_iff.1 hu).1
    rw [g3 _ (by omega)]; exact h4 j u hu
  · exact ⟨cur, (k.block b' (lt_of h1) hb).trans h1, h2, h3, h4⟩
/-- cells written within the stretch -/
theorem Held.set (h : Held w e b lo hi xs) (o : Nat) (vs ys : List Value) (h1 : lo ≤ o) (h2 : o + vs.length ≤ hi) (h3 : lo + ys.length ≤ hi)
    (hy : ∀ j u, ys[j]? = some u → (o ≤ lo + j ∧ lo + j < o + vs.length ∧ vs[lo + j - o]? = some u) ∨ ((lo + j < o ∨ o + vs.length ≤ lo + j) ∧ xs[j]? = some u)) :
    Held (w.setCells b o vs) e b lo hi ys := by
  have hall := h.there
  have hcell := h.cell
  obtain ⟨cur, g1, g2, g3, g4⟩ := h
  obtain ⟨c1, k1, k2, k3⟩ := (InReg.setCells (b := b) vs o w h1 h2).row cur e (0, 0) g1
  refine ⟨c1, k1, by omega, h3, fun j u hu => ?_⟩
  rw [← cell_of k1]
  rcases hy j u hu with ⟨p1, p2, p3⟩ | ⟨p1, p2⟩
  · have := World.cell?_setCells_in b vs o w (fun i hi => hall _ (by omega)) (lo + j - o) (by omega)
    rw [show o + (lo + j - o) = lo + j by omega] at this
    rw [this, ← p3, List.getElem?_eq_getElem (by omega)]
  · rw [World.cell?_setCells_out b vs o w _ (fun _ _ => p1)]
    exact hcell j u p2
/-- a new block -/
theorem Held.new (w : World) (e : TypeId) (arr : Array Value) (xs : List Value) (hx : ∀ (j : Nat) (u : Value), xs[j]? = some u → arr[j]? = some u) (hl : xs.length ≤ arr.size) : Held (w.alloc (.cells arr e)) e w.heap.size 0 arr.size xs := by
  refine ⟨arr, heap_alloc_new w _, Nat.le_refl _, by omega, fun j u hu => by rw [Nat.zero_add]; exact hx j u hu⟩
end
theorem some_setCells (b : Nat) (vs : List Value) (o : Nat) (w : World) (h : ∀ j, j < vs.length → (w.cell? ⟨b, o + j, none⟩).isSome = true) (k : Nat) (hk : (w.cell? ⟨b, k, none⟩).isSome = true) : ((w.setCells b o vs).cell? ⟨b, k, none⟩).isSome = true := by
  by_cases hin : o ≤ k ∧ k < o + vs.length
  · have := World.cell?_setCells_in b vs o w h (k - o) (by omega)
    rw [show o + (k - o) = k by omega] at this
    rw [this]; rfl
  · rw [World.cell?_setCells_out b vs o w ⟨b, k, none⟩ (fun _ _ => by show k < o ∨ o + vs.length ≤ k; omega)]
    exact hk
theorem below_cells {B b : Nat} (hb : B ≤ b) : ∀ (vs : List Value) (o : Nat) (a w : World), Below B a w → Below B a (w.setCells b o vs)
  | [], _, _, _, h => h
  | v :: r, o, _, _, h => below_cells hb r (o + 1) _ _ (h.setCell (p := ⟨b, o, none⟩) hb v)
/-- a boxed struct of two cells, in a later world -/
theorem boxed2 {w w1 : World} {a b : Value} {t : TypeId} (h : Below (w.alloc (.cells #[a, b] t)).heap.size (w.alloc (.cells #[a, b] t)) w1) :
    w.heap.size < w1.heap.size ∧ w1.cell? ⟨w.heap.size, 0, none⟩ = some a ∧ w1.cell? ⟨w.heap.size, 1, none⟩ = some b := by
  have hs := h.size
  have e : (w.alloc (.cells #[a, b] t)).heap.size = w.heap.size + 1 := by simp
  have hb := (h.block w.heap.size (by rw [e]; exact Nat.lt_succ_self _)).trans (heap_alloc_new w _)
  exact ⟨by omega, (cell_of hb 0), (cell_of hb 1)⟩
/-! ## A row into which cells are put -/
theorem ins_get {xs vs : List Value} {a : Nat} (ha : a ≤ xs.length) (j : Nat) :
    (xs.take a ++ vs ++ xs.drop a)[j]? = if j < a then xs[j]? else if j < a + vs.length then vs[j - a]? else xs[j - vs.length]? := by
  have hl : (xs.take a).length = a := by rw [List.length_take]; omega
  by_cases h1 : j < a
  · rw [if_pos h1, List.append_assoc, List.getElem?_append_left (by omega), List.getElem?_take, if_pos h1]
  · rw [if_neg h1, List.append_assoc, List.getElem?_append_right (by omega), hl]
    by_cases h2 : j < a + vs.length
    · rw [if_pos h2, List.getElem?_append_left (by omega)]
    · rw [if_neg h2, List.getElem?_append_right (by omega), List.getElem?_drop]
      congr 1; omega
theorem ins_len {xs vs : List Value} {a : Nat} (ha : a ≤ xs.length) : (xs.take a ++ vs ++ xs.drop a).length = xs.length + vs.length := by
  simp only [List.length_append, List.length_take, List.length_drop]; omega
section
variable {w : World} {e : TypeId} {b lo hi : Nat} {xs vs : List Value}
theorem Held.put_end (h : Held w e b lo hi xs) (hr : lo + xs.length + vs.length ≤ hi) : Held (w.setCells b (lo + xs.length) vs) e b lo hi (xs.take xs.length ++ vs ++ xs.drop xs.length) := by
  refine h.set (lo + xs.length) vs _ (by omega) (by omega) (by rw [ins_len (Nat.le_refl _)]; omega) fun j u hu => ?_
  have hj : j < xs.length + vs.length := by rw [← ins_len (Nat.le_refl _)]; exact (List.getElem?_eq_some_iff.1 hu).1
  rw [ins_get (Nat.le_refl _)] at hu
  by_cases h1 : j < xs.length
  · rw [if_pos h1] at hu
    exact .inr ⟨by omega, hu⟩
  · rw [if_neg h1, if_pos hj] at hu
    exact .inl ⟨by omega, by omega, by rw [show lo + j - (lo + xs.length) = j - xs.length by omega]; exact hu⟩
theorem Held.put_mid (h : Held w e b lo hi xs) (a : Nat) (ha : a + vs.length ≤ xs.length) (hr : lo + xs.length + vs.length ≤ hi) :
    Held ((w.setCells b (lo + (a + vs.length)) (xs.drop a)).setCells b (lo + a) vs) e b lo hi (xs.take a ++ vs ++ xs.drop a) := by
  have hl : (xs.take (a + vs.length)).length = a + vs.length := by rw [List.length_take]; omega
  have hd : (xs.drop a).length = xs.length - a := List.length_drop
  have h1 : Held (w.setCells b (lo + (a + vs.length)) (xs.drop a)) e b lo hi (xs.take (a + vs.length) ++ xs.drop a) := by
    refine h.set _ _ _ (by omega) (by omega) (by rw [List.length_append, hl, hd]; omega) fun j u hu => ?_
    by_cases h1 : j < a + vs.length
    · rw [List.getElem?_append_left (by omega), List.getElem?_take, if_pos h1] at hu
      exact .inr ⟨by omega, hu⟩
    · rw [List.getElem?_append_right (by omega), hl] at hu
      have := (List.getElem?_eq_some_iff.1 hu).1
      exact .inl ⟨by omega, by omega, by rw [show lo + j - (lo + (a + vs.length)) = j - (a + vs.length) by omega]; exact hu⟩
  refine h1.set _ _ _ (by omega) (by omega) (by rw [ins_len (by omega)]; omega) fun j u hu => ?_
  have hj : j < xs.length + vs.length := by rw [← ins_len (a := a) (by omega)]; exact (List.getElem?_eq_some_iff.1 hu).1
  rw [ins_get (by omega)] at hu
  by_cases h2 : j < a
  · rw [if_pos h2] at hu
    exact .inr ⟨by omega, by rw [List.getElem?_append_left (by omega), List.getElem?_take, if_pos (by omega)]; exact hu⟩
  · rw [if_neg h2] at hu
    by_cases h3 : j < a + vs.length
    · rw [if_pos h3] at hu
      exact .inl ⟨by omega, by omega, by rw [show lo + j - (lo + a) = j - a by omega]; exact hu⟩
    · rw [if_neg h3] at hu
      exact .inr ⟨by omega, by rw [List.getElem?_append_right (by omega), hl, List.getElem?_drop, show a + (j - (a + vs.length)) = j - vs.length by omega]; exact hu⟩
/-- put into a new row that begins as the old one -/
theorem Held.put_new {arr : Array Value} (a : Nat) (ha : a ≤ xs.length) (hr : xs.length + vs.length ≤ arr.size) (hx : ∀ (j : Nat) (u : Value), (xs.take a)[j]? = some u → arr[j]? = some u) :
    Held (((w.alloc (.cells arr e)).drew.setCells w.heap.size a vs).drew.setCells w.heap.size (a + vs.length) (xs.drop a)) e w.heap.size 0 arr.size (xs.take a ++ vs ++ xs.drop a) := by
  have hl : (xs.take a).length = a := by rw [List.length_take]; omega
  have hd : (xs.drop a).length = xs.length - a := List.length_drop
  have h0 : Held (w.alloc (.cells arr e)).drew e w.heap.size 0 arr.size (xs.take a) := Held.new w e arr _ hx (by omega)
  have h1 : Held ((w.alloc (.cells arr e)).drew.setCells w.heap.size a vs).drew e w.heap.size 0 arr.size (xs.take a ++ vs) := by
    refine h0.set _ _ _ (by omega) (by omega) (by rw [List.length_append]; omega) fun j u hu => ?_
    by_cases h1 : j < a
    · rw [List.getElem?_append_left (by omega)] at hu
      exact .inr ⟨by omega, hu⟩
    · rw [List.getElem?_append_right (by omega), hl] at hu
      have := (List.getElem?_eq_some_iff.1 hu).1
      exact .inl ⟨by omega, by omega, by rw [Nat.zero_add]; exact hu⟩
  refine h1.set _ _ _ (by omega) (by omega) (by rw [ins_len ha]; omega) fun j u hu => ?_
  by_cases h2 : j < a + vs.length
  · rw [List.getElem?_append_left (by rw [List.length_append]; omega)] at hu
    exact .inr ⟨by omega, hu⟩
  · rw [List.getElem?_append_right (by rw [List.length_append]; omega), List.length_append, hl] at hu
    have := (List.getElem?_eq_some_iff.1 hu).1
    exact .inl ⟨by omega, by omega, by rw [Nat.zero_add]; exact hu⟩
end
/-- what an insertion into the slice (b, o, c) of elements of k cells made: m elements, the cells ys, in place or in a new row -/
def Insd (k : Nat) (e : TypeId) (b o c m : Nat) (ys : List Value) (w : World) (en : Ending) (w' : World) : Prop :=
  ∃ b' o' c', en = .returned (.slice (some ⟨b', o', none⟩) m c') ∧ m ≤ c' ∧ c' ≤ 9223372036854775807 ∧ Held w' e b' o' (o' + c' * k) ys ∧ InReg b o (o + c * k) w w' ∧
    ((b' = b ∧ o' = o ∧ c' = c) ∨ (w.heap.size ≤ b' ∧ o' = 0 ∧ ∃ cur, w'.heap[b']? = some (.cells cur e (0, 0)) ∧ cur.size = c' * k))
/-! ## What the builtins do, at elements of k cells -/
section
variable {P : Program}
theorem run_copy_k (w : World) (dT sT ty elem : TypeId) (k b o dLen dCap : Nat) (a : Addr) (sLen sCap n : Nat) (cs : List Value)
    (hu : P.underlying dT = some (.slice elem)) (hs : (P.info? elem).map (·.size) = some k) (hn : n = Nat.min sLen dLen) (hl : cs.length = n * k)
    (hsrc : ∀ j v, cs[j]? = some v → w.cell? (a.add j) = some v) (hc : ∀ j, j < cs.length → (w.cell? ⟨b, o + j, none⟩).isSome = true) (hf : ∀ j, j < cs.length → w.frozen? ⟨b, o + j, none⟩ = false) (h1 : ∀ v ∈ cs, v.oneCell' = true) :
    (Builtin.copy_ #[dT, sT] ty #[.slice (some ⟨b, o, none⟩) dLen dCap, .slice (some a) sLen sCap]).run P w = .ok (goInt n) (w.setCells b o cs) := by
  have hll := run_loadCells_list (P := P) w a cs hsrc
  have hst := run_storeCells_cells (P := P) b o cs 0 w (by simpa using hc) (by simpa using hf) h1
  cases hq : P.info? elem with
  | none => simp [hq] at hs
  | some i =>
    have hi : i.size = k := by simpa [hq] using hs
    rw [hl] at hll
    simp [Builtin.copy_, run_underlying hu, Builtin.lenOf, Builtin.firstCells, sizeOf, typeInfo, hq, hi, ← hn, hll, hst]
theorem run_clear_k (w : World) (t e ty : TypeId) (z : Value) (zs : List Value) (ht : P.underlying t = some (.slice e)) (hv : ∀ w, (zeroValue e).run P w = .ok z w) (b o n c : Nat) (hn : 0 < n)
    (hz : (Builtin.zeroCells z.cells n).toList = zs) (h1 : ∀ u ∈ zs, u.oneCell' = true)
    (hc : ∀ j, j < zs.length → (w.cell? ⟨b, o + j, none⟩).isSome = true) (hf : ∀ j, j < zs.length → w.frozen? ⟨b, o + j, none⟩ = false) :
    (Builtin.clear_ #[t] ty #[.slice (some ⟨b, o, none⟩) n c]).run P w = .ok (.tuple #[]) (w.setCells b o zs) := by
  have hst := run_storeCells_cells (P := P) b o zs 0 w (by simpa using hc) (by simpa using hf) h1
  simp only [Nat.add_zero] at hst
  obtain ⟨m, rfl⟩ : ∃ m, n = m + 1 := ⟨n - 1, by omega⟩
  simp [Builtin.clear_, run_underlying ht, hv, hz, hst]
/-- 'copy(d, s)' for the walk, where its run is known by an equation -/
theorem wpList_copy_eq (w : World) {ops : Array Oper} {rest : List Oper} {o : Oper} {a : Act} {Q : Exit → Act → World → Prop} (hgd : o.guard = none) (d s : Operand) (t t' : TypeId)
    (ho : o.op = .call { callee := .builtin .copy, args := #[d, s], argTypes := #[t, t'] }) (v u : Value) (hd : a.eval d = v) (hs : a.eval s = u) {v' : Value} {w' : World}
    (hr : (Builtin.copy_ #[t, t'] o.type #[v, u]).run P w = .ok v' w') (h : wpList P ops Q rest (a.put o.dst v') w') : wpList P ops Q (o :: rest) a w :=
  wpList_plain hgd fun _ hK => by
    unfold Oper.wp execOp
    simp only [ho, resolve, invoke, builtin, Sem.run_bind, Sem.run_pure, Result.andThen_ok, List.map_toArray, List.map_cons, List.map_nil, hd, hs, hr]
    exact hK _ _ h
/-- .. as one step of a region that draws -/
theorem step_copy_eq {ops : Array Oper} {o : Oper} {a : Act} {w : World} {K : Act → World → Prop} {Q : Exit → Act → World → Prop} {E : Prop}
    (hg : o.guard = none) (d x : Operand) (dT sT : TypeId) (hop : o.op = Op.call { callee := Callee.builtin Builtin.copy, args := #[d, x], argTypes := #[dT, sT] })
    (v u : Value) (hd : a.eval d = v) (hx : a.eval x = u) {v' : Value} {w' : World} (hr : (Builtin.copy_ #[dT, sT] o.type #[v, u]).run P w = .ok v' w') (hK : K (a.put o.dst v') w') :
    if Region.wanted o (yielded ops a.tmps) = true then Oper.wp P o a w K Q else E := by
  have hw : Region.wanted o (yielded ops a.tmps) = true := by simp [Region.wanted, hg]
  rw [if_pos hw]
  unfold Oper.wp
  simp [execOp, hop, resolve, invoke, builtin, hd, hx, hr, Result.andThen]
  exact hK
/-- 'clear(s)' for the walk, where its run is known by an equation -/
theorem wpList_clear_eq (w : World) {ops : Array Oper} {rest : List Oper} {o : Oper} {a : Act} {Q : Exit → Act → World → Prop} (hgd : o.guard = none) (s : Operand) (t : TypeId)
    (ho : o.op = .call { callee := .builtin .clear, args := #[s], argTypes := #[t] }) (v : Value) (hs : a.eval s = v) {v' : Value} {w' : World}
    (hr : (Builtin.clear_ #[t] o.type #[v]).run P w = .ok v' w') (h : wpList P ops Q rest (a.put o.dst v') w') : wpList P ops Q (o :: rest) a w :=
  wpList_plain hgd fun _ hK => by
    unfold Oper.wp execOp
    simp only [ho, resolve, invoke, builtin, Sem.run_bind, Sem.run_pure, Result.andThen_ok, List.map_toArray, List.map_cons, List.map_nil, hs, hr]
    exact hK _ _ h
end
end Go.Proofs.Ytncneoggnoiknaa.Me
