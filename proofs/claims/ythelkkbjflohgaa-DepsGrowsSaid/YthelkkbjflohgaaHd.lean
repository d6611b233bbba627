/- The walk through the reference's Order: what it is made of. -/
import Derived.Test.YthelkkbjflohgaaHc
import Derived.Test.YthelkkbjflohgaaGo
namespace Go.Proofs.Ythelkkbjflohgaa.Ds
open Go.RowKit Ut Gr Go.Maps
theorem push_str_at {ops : Array Oper} {rest : List Oper} {o : Oper} {a : Act} {Q : Exit → Act → World → Prop} {W : World} {T' : TypeId} {z : ByteArray} (hgd : o.guard = none) (s x : Operand)
    (ho : o.op = .call { callee := .builtin .append, args := #[s, x], argTypes := #[23, 23] }) (B : Nat) (v : Value) (l : List ByteArray) (hs : a.eval s = v) (hown : OwnS W B v l)
    (hx : a.eval x = .slice (some ⟨W.heap.size, 0, none⟩) 1 1) (hn : l.length ≤ 1000000) (hB : B ≤ W.heap.size)
    (h : ∀ v' w', OwnS w' B v' (l ++ [z]) → W.grownBy w' v.ownBlock → (v'.ownBlock = v.ownBlock ∨ v'.ownBlock = some (W.heap.size + 1)) → wpList Try.prog ops Q rest (a.put o.dst v') w') : wpList Try.prog ops Q (o :: rest) a (W.alloc (.cells #[.string z] T')) := by
  obtain ⟨i0, hi, hz0, hz1, hz2⟩ := info_parts infoStr
  refine wpList_append_own_at (W.alloc (.cells #[.string z] T')) hgd s x _ ho B 9 i0 _ 1 16 Try.underlying23 hi hz0 hz1 hz2 rfl (by decide) v l.length (sc l) hs (World.ownsRow.alloc hown _)
    ⟨W.heap.size, 0, none⟩ 1 1 [.string z] hx rfl (cell_one_new _ _ _) (by simp [Value.oneCell']) (by unfold maxLen; omega) (by omega) (by simp; omega) fun v' w' h1 h2 _ hloc => ?_
  rw [World.size_alloc] at hloc
  refine h v' w' ?_ ((World.grownBy_alloc W _ _).trans h2) hloc
  unfold OwnS
  rw [sc_append, List.length_append]
  exact h1
/-- the head and the tail of a row that the call owns -/
theorem OwnS.head {w : World} {B g cap : Nat} {l : List ByteArray} (h : OwnS w B (.slice (some ⟨g, 0, none⟩) l.length cap) l) (h0 : 0 < l.length) (m : Nat) (hm : m ≤ l.length) : Strs w (.slice (some ⟨g, 0, none⟩) m cap) (l.take m) := by
  obtain ⟨g', cap', hv, _, hg, hc, hcell⟩ := h.pos h0
  obtain ⟨e1, _, e2⟩ := Value.slice.inj hv
  injection e1 with e1
  injection e1 with e1
  subst e1; subst e2
  by_cases hm0 : m = 0
  · subst hm0; exact .inl ⟨by simp, _, _, rfl, fun h => by cases h⟩
  · refine .inr ⟨by rw [List.length_take]; omega, g, 0, cap, by rw [List.length_take, Nat.min_eq_left hm], hg, by rw [List.length_take]; omega, fun i hi => ?_⟩
    rw [List.length_take] at hi
    rw [Nat.zero_add, List.getElem_take]
    exact hcell i _ (List.getElem?_eq_getElem (by omega))
theorem OwnS.tail {w : World} {B g cap : Nat} {l : List ByteArray} (h : OwnS w B (.slice (some ⟨g, 0, none⟩) l.length cap) l) (h0 : 0 < l.length) (m : Nat) (hm : m ≤ l.length) : Strs w (.slice (some ⟨g, m, none⟩) (l.length - m) (cap - m)) (l.drop m) := by
  obtain ⟨g', cap', hv, _, hg, hc, hcell⟩ := h.pos h0
  obtain ⟨e1, _, e2⟩ := Value.slice.inj hv
  injection e1 with e1
  injection e1 with e1
  subst e1; subst e2
  by_cases hm0 : m = l.length
  · subst hm0; exact .inl ⟨by simp, _, _, by rw [Nat.sub_self], fun h => by cases h⟩
  · refine .inr ⟨by rw [List.length_drop]; omega, g, m, cap - m, by rw [List.length_drop], hg, by rw [List.length_drop]; omega, fun i hi => ?_⟩
    rw [List.length_drop] at hi
    rw [List.getElem_drop]
    exact hcell (m + i) _ (List.getElem?_eq_getElem (by omega))
theorem take_drop_erase (l : List ByteArray) (k : Nat) : l.take k ++ l.drop (k + 1) = l.eraseIdx k := (List.eraseIdx_eq_take_drop_succ ..).symm
theorem mem_erase_nodup {l : List ByteArray} {k : Nat} (hl : l.Nodup) (hk : k < l.length) (y : ByteArray) : y ∈ l.eraseIdx k ↔ y ∈ l ∧ y ≠ l[k] := by
  rw [List.mem_eraseIdx_iff_getElem]
  constructor
  · rintro ⟨j, hj, hne, rfl⟩
    refine ⟨List.getElem_mem hj, fun e => ?_⟩
    rcases Nat.lt_or_gt_of_ne hne with h | h
    · exact List.pairwise_iff_getElem.1 hl j k hj hk h e
    · exact List.pairwise_iff_getElem.1 hl k j hk hj h e.symm
  · rintro ⟨hy, hne⟩
    obtain ⟨j, hj, rfl⟩ := List.mem_iff_getElem.1 hy
    exact ⟨j, hj, fun e => hne (by subst e; rfl), rfl⟩
/-- the best of the first i: the least one that is free -/
def Best (l : List (ByteArray × ByteArray)) (cur : List ByteArray) (i : Nat) (b : Int) : Prop :=
  (b = -1 ∧ ∀ j (hj : j < cur.length), j < i → ¬ Free l cur cur[j]) ∨ ∃ m : Nat, ∃ hm : m < cur.length, m < i ∧ b = m ∧ Free l cur cur[m] ∧ ∀ j (hj : j < cur.length), j < i → Free l cur cur[j] → cur[j] = cur[m] ∨ ltN cur[m] cur[j] = true
theorem best_start (l : List (ByteArray × ByteArray)) (cur : List ByteArray) : Best l cur 0 (-1) := .inl ⟨rfl, fun _ _ h => by omega⟩
theorem best_skip {l : List (ByteArray × ByteArray)} {cur : List ByteArray} {i : Nat} {b : Int} (h : Best l cur i b) (hi : i < cur.length) (hf : ¬ Free l cur cur[i]) : Best l cur (i + 1) b := by
  rcases h with ⟨rfl, h⟩ | ⟨m, hm, hmi, rfl, h1, h2⟩
  · refine .inl ⟨rfl, fun j hj hji => ?_⟩
    by_cases e : j = i
    · subst e; exact hf
    · exact h j hj (by omega)
  · refine .inr ⟨m, hm, by omega, rfl, h1, fun j hj hji hfj => ?_⟩
    by_cases e : j = i
    · subst e; exact (hf hfj).elim
    · exact h2 j hj (by omega) hfj
theorem best_first {l : List (ByteArray × ByteArray)} {cur : List ByteArray} {i : Nat} (h : Best l cur i (-1)) (hi : i < cur.length) (hf : Free l cur cur[i]) : Best l cur (i + 1) i := by
  rcases h with ⟨_, h⟩ | ⟨m, hm, hmi, e, h1, h2⟩
  · refine .inr ⟨i, hi, by omega, rfl, hf, fun j hj hji hfj => ?_⟩
    by_cases e : j = i
    · subst e; exact .inl rfl
    · exact (h j hj (by omega) hfj).elim
  · omega
theorem best_less {l : List (ByteArray × ByteArray)} {cur : List ByteArray} {i m : Nat} (h : Best l cur i m) (hi : i < cur.length) (hm : m < cur.length) (hf : Free l cur cur[i]) (hlt : ltN cur[i] cur[m] = true) : Best l cur (i + 1) i := by
  rcases h with ⟨e, _⟩ | ⟨m', hm', hmi, e, h1, h2⟩
  · omega
  · obtain rfl : m = m' := by omega
    refine .inr ⟨i, hi, by omega, rfl, hf, fun j hj hji hfj => ?_⟩
    by_cases e : j = i
    · subst e; exact .inl rfl
    · rcases h2 j hj (by omega) hfj with h3 | h3
      · rw [h3]; exact .inr hlt
      · exact .inr (ltN_trans hlt h3)
theorem best_stay {l : List (ByteArray × ByteArray)} {cur : List ByteArray} {i m : Nat} (h : Best l cur i m) (hi : i < cur.length) (hm : m < cur.length) (hlt : ltN cur[i] cur[m] = false) : Best l cur (i + 1) m := by
  rcases h with ⟨e, _⟩ | ⟨m', hm', hmi, e, h1, h2⟩
  · omega
  · obtain rfl : m = m' := by omega
    refine .inr ⟨m, hm, by omega, rfl, h1, fun j hj hji hfj => ?_⟩
    by_cases e : j = i
    · subst e
      by_cases he : cur[j] = cur[m]
      · exact .inl he
      · exact .inr (ltN_tri hlt he)
    · exact h2 j hj (by omega) hfj
theorem best_bd {l : List (ByteArray × ByteArray)} {cur : List ByteArray} {i : Nat} {b : Int} (h : Best l cur i b) : (b = -1) ∨ ∃ m : Nat, b = m ∧ m < cur.length ∧ m < i := by
  rcases h with ⟨e, _⟩ | ⟨m, hm, hmi, e, _⟩
  · exact .inl e
  · exact .inr ⟨m, e, hm, hmi⟩
theorem best_none {l : List (ByteArray × ByteArray)} {cur : List ByteArray} (h : Best l cur cur.length (-1)) : ∀ x ∈ cur, ¬ Free l cur x := by
  rcases h with ⟨_, h⟩ | ⟨m, hm, hmi, e, _⟩
  · intro x hx
    obtain ⟨j, hj, rfl⟩ := List.mem_iff_getElem.1 hx
    exact h j hj hj
  · omega
theorem best_next {l : List (ByteArray × ByteArray)} {cur : List ByteArray} {m : Nat} (hm : m < cur.length) (h : Best l cur cur.length m) : Gr.Next ltN l cur cur[m] := by
  rcases h with ⟨e, _⟩ | ⟨m', hm', hmi, e, h1, h2⟩
  · omega
  · obtain rfl : m = m' := by omega
    refine ⟨List.getElem_mem hm, h1, fun y hy hf => ?_⟩
    obtain ⟨j, hj, rfl⟩ := List.mem_iff_getElem.1 hy
    exact h2 j hj hj hf
/-- is none of the first k of cur among to? -/
def noneK (cur to : List ByteArray) (k : Nat) : Bool := !((cur.take k).any fun y => isIn y to)
theorem noneK_next {cur to : List ByteArray} {k : Nat} (hk : k < cur.length) : noneK cur to (k + 1) = (noneK cur to k && !isIn cur[k] to) := by
  unfold noneK; rw [any_snoc hk, Bool.not_or]
theorem noneK_free {l : List (ByteArray × ByteArray)} {cur to : List ByteArray} {x : ByteArray} (h : ∀ y, y ∈ to ↔ Leads l x y) : noneK cur to cur.length = true ↔ Free l cur x := by
  unfold noneK Free
  rw [List.take_length, Bool.not_eq_true', List.any_eq_false]
  constructor
  · intro k y hy hw
    exact k y hy (isIn_yes ((h y).2 hw))
  · intro k y hy hw
    exact k y hy ((h y).1 (isIn_iff.1 hw))
/-- the names, each once -/
theorem dedup_step {cur names : List ByteArray} {k : Nat} (hk : k < names.length) (h : ∀ x, x ∈ cur ↔ x ∈ names.take k) (hm : names[k] ∈ cur) : ∀ x, x ∈ cur ↔ x ∈ names.take (k + 1) := fun x => by
  rw [List.take_succ_eq_append_getElem hk, List.mem_append, List.mem_singleton, ← h x]
  exact ⟨.inl, fun hx => hx.elim id (fun e => e ▸ hm)⟩
theorem dedup_add {cur names : List ByteArray} {k : Nat} (hk : k < names.length) (h : ∀ x, x ∈ cur ↔ x ∈ names.take k) : ∀ x, x ∈ cur ++ [names[k]] ↔ x ∈ names.take (k + 1) := fun x => by
  rw [List.take_succ_eq_append_getElem hk, List.mem_append, List.mem_append, h x]
end Go.Proofs.Ythelkkbjflohgaa.Ds
