/- Rows of entries: how a slice value reads as a list; a row of the call's own; one entry more; a list more. -/
import Derived.Test.YtncneoggnoiknaaIx
import Derived.WalkKit
import Derived.Handy
import Derived.Lib.Hide
import Derived.OwnWalk
import Derived.Laws.AppendOwnNone
namespace Go.Proofs.Ytncneoggnoiknaa.Du
open Go.RowKit Sp Ut Me
/-- the slice value v reads as the entries l -/
def Ents (w : World) (v : Value) (l : List E) : Prop :=
  (l = [] ∧ ∃ a cap, v = .slice a 0 cap ∧ (a = none → cap = 0)) ∨
  (0 < l.length ∧ ∃ b o cap, v = .slice (some ⟨b, o, none⟩) l.length cap ∧ b < w.heap.size ∧ l.length ≤ cap ∧
    ∀ k (hk : k < l.length), w.cell? ⟨b, o + k * 2, none⟩ = some (.int .i64 l[k].1) ∧ w.cell? ⟨b, o + k * 2 + 1, none⟩ = some (.string l[k].2))
theorem Ents.below {w w' : World} {v : Value} {l : List E} (h : Ents w v l) (hb : Below w.heap.size w w') : Ents w' v l := by
  rcases h with h | ⟨h0, b, o, cap, rfl, hlt, hc, hcell⟩
  · exact .inl h
  · exact .inr ⟨h0, b, o, cap, rfl, Nat.lt_of_lt_of_le hlt hb.size, hc, fun k hk => ⟨(hb.cell (p := ⟨b, o + k * 2, none⟩) hlt).trans (hcell k hk).1, (hb.cell (p := ⟨b, o + k * 2 + 1, none⟩) hlt).trans (hcell k hk).2⟩⟩
/-- nothing in the slice's block has turned -/
theorem Ents.block {w w' : World} {v : Value} {l : List E} (h : Ents w v l) (hs : w.heap.size ≤ w'.heap.size) (hb : ∀ k, v.ownBlock = some k → k < w.heap.size → w'.heap[k]? = w.heap[k]?) : Ents w' v l := by
  rcases h with h | ⟨h0, b, o, cap, rfl, hlt, hc, hcell⟩
  · exact .inl h
  · have hk := hb b rfl hlt
    exact .inr ⟨h0, b, o, cap, rfl, Nat.lt_of_lt_of_le hlt hs, hc, fun k hk' => ⟨(World.cell?_of_block (w := w) (a := ⟨b, o + k * 2, none⟩) hk).trans (hcell k hk').1, (World.cell?_of_block (w := w) (a := ⟨b, o + k * 2 + 1, none⟩) hk).trans (hcell k hk').2⟩⟩
theorem Ents.slice {w : World} {v : Value} {l : List E} (h : Ents w v l) : ∃ a c, v = .slice a l.length c := by
  rcases h with ⟨rfl, a, cap, rfl, _⟩ | ⟨h0, b, o, cap, rfl, _⟩
  · exact ⟨a, cap, rfl⟩
  · exact ⟨_, cap, rfl⟩
/-- the call's own row of entries (of the type T) from block B on -/
def OwnR (T : TypeId) (w : World) (B : Nat) (v : Value) (l : List E) : Prop := w.ownsRow B T 2 v l.length (cellsE l)
theorem OwnR.nil (T : TypeId) (w : World) (B : Nat) : OwnR T w B (.slice none 0 0) [] := World.ownsRow_nil _ _ _ _
theorem OwnR.below {T : TypeId} {w W : World} {B : Nat} {v : Value} {l : List E} (h : OwnR T w B v l) (hB : Below w.heap.size w W) : OwnR T W B v l := ownsRow_below h hB
theorem OwnR.base {T : TypeId} {w : World} {B B' : Nat} {v : Value} {l : List E} (h : OwnR T w B v l) (hb : B' ≤ B) : OwnR T w B' v l := ownsRow_base h hb
theorem OwnR.blk {T : TypeId} {w : World} {B : Nat} {v : Value} {l : List E} (h : OwnR T w B v l) : ∀ k, v.ownBlock = some k → B ≤ k ∧ k < w.heap.size := World.ownsRow.lt h
theorem OwnR.ents {T : TypeId} {w : World} {B : Nat} {v : Value} {l : List E} (h : OwnR T w B v l) : Ents w v l := by
  by_cases h0 : l.length = 0
  · obtain rfl : l = [] := List.length_eq_zero_iff.1 h0
    refine .inl ⟨rfl, ?_⟩
    rcases h.2 with ⟨rfl, _⟩ | ⟨g, cap, cur, rfl, _⟩
    · exact ⟨none, 0, rfl, fun _ => rfl⟩
    · exact ⟨_, cap, rfl, fun h => by cases h⟩
  · obtain ⟨g, cap, rfl, hb, hg, hc, _, hcell⟩ := ownsRow_pos h (by omega)
    refine .inr ⟨by omega, g, 0, cap, rfl, hg, hc, fun i hi => ?_⟩
    have hd := cellsE_get l i hi
    rw [Nat.zero_add]
    exact ⟨hcell _ _ hd.1, hcell _ _ hd.2⟩
def GivesR (T : TypeId) (w : World) (l : List E) (e : Ending) (w' : World) : Prop := ∃ v, e = .returned v ∧ OwnR T w' w.heap.size v l ∧ Below w.heap.size w w'
theorem cell_two (w : World) (a b : Value) (t : TypeId) : ∀ j u, [a, b][j]? = some u → (w.alloc (.cells #[a, b] t)).cell? ((⟨w.heap.size, 0, none⟩ : Addr).add j) = some u := by
  intro j u hj
  match j, hj with
  | 0, hj => simp at hj; subst hj; simp [Addr.add]
  | 1, hj => simp at hj; subst hj; simp [Addr.add]
/-- one entry more -/
theorem push_ent {ops : Array Oper} {rest : List Oper} {o : Oper} {a : Act} {Q : Exit → Act → World → Prop} {W : World} {T' T S : TypeId} {x : Int} {s : ByteArray}
    (hT : (Try.prog.info? T).map (fun i => (i.zero, i.size, i.bytes)) = some (some (.agg #[.int .i64 0, .string ByteArray.empty]), 2, 24)) (hS : Try.prog.underlying S = some (.slice T)) (hgd : o.guard = none) (d e : Operand)
    (ho : o.op = .call { callee := .builtin .append, args := #[d, e], argTypes := #[S, S] }) (B : Nat) (v : Value) (l : List E) (hs : a.eval d = v) (hown : OwnR T W B v l)
    (H : Nat) (hx : a.eval e = .slice (some ⟨H, 0, none⟩) 1 1) (hH : H = W.heap.size) (hn : l.length ≤ 1000000) (hB : B ≤ W.heap.size)
    (h : ∀ v' w', OwnR T w' B v' (l ++ [(x, s)]) → Below B W w' → wpList Try.prog ops Q rest (a.put o.dst v') w') : wpList Try.prog ops Q (o :: rest) a (W.alloc (.cells #[.int .i64 x, .string s] T')) := by
  subst hH
  obtain ⟨i0, hi, hz0, hz1, hz2⟩ := info_parts hT
  refine wpList_append_own (W.alloc (.cells #[.int .i64 x, .string s] T')) hgd d e _ ho B T i0 _ 2 24 hS hi hz0 hz1 hz2 rfl (by decide) v l.length (cellsE l) hs (World.ownsRow.alloc hown _)
    ⟨W.heap.size, 0, none⟩ 1 1 [.int .i64 x, .string s] hx rfl (cell_two _ _ _ _) (by simp [Value.oneCell']) (by unfold maxLen; omega) (by omega) (by simp; omega) fun v' w' h1 h2 _ => ?_
  refine h v' w' ?_ (((Below.refl B W).alloc hB _).grown h2 (by simp; omega) fun k hk => (hown.lt k hk).1)
  unfold OwnR
  rw [cellsE_append, List.length_append]
  exact h1
/-- a list more, wherever it lies -/
theorem push_list {ops : Array Oper} {rest : List Oper} {o : Oper} {a : Act} {Q : Exit → Act → World → Prop} {W : World} {T S : TypeId}
    (hT : (Try.prog.info? T).map (fun i => (i.zero, i.size, i.bytes)) = some (some (.agg #[.int .i64 0, .string ByteArray.empty]), 2, 24)) (hS : Try.prog.underlying S = some (.slice T)) (hgd : o.guard = none) (d e : Operand)
    (ho : o.op = .call { callee := .builtin .append, args := #[d, e], argTypes := #[S, S] }) (B : Nat) (v : Value) (l m : List E) (hs : a.eval d = v) (hown : OwnR T W B v l)
    (vx : Value) (hx : a.eval e = vx) (hm : Ents W vx m) (hn : l.length + m.length ≤ 1000000) (hB : B ≤ W.heap.size)
    (h : ∀ v' w', OwnR T w' B v' (l ++ m) → Below B W w' → wpList Try.prog ops Q rest (a.put o.dst v') w') : wpList Try.prog ops Q (o :: rest) a W := by
  obtain ⟨i0, hi, hz0, hz1, hz2⟩ := info_parts hT
  have fin : ∀ v' w', w'.ownsRow B T 2 v' (l.length + m.length) (cellsE l ++ cellsE m) → W.grownBy w' v.ownBlock → wpList Try.prog ops Q rest (a.put o.dst v') w' := fun v' w' h1 h2 =>
    h v' w' (by unfold OwnR; rw [cellsE_append, List.length_append]; exact h1) ((Below.refl B W).grown h2 hB fun k hk => (hown.lt k hk).1)
  rcases hm with ⟨rfl, b, cap, rfl, hb⟩ | ⟨h0, b, of, cap, rfl, hlt, hc, hcell⟩
  · cases b with
    | none =>
      obtain rfl := hb rfl
      exact wpList_append_own_none hgd d e _ ho B T i0 2 hS hi v l.length (cellsE l) hs hown hx (h v W (by rw [List.append_nil]; exact hown) (Below.refl _ _))
    | some ad =>
      exact wpList_append_own W hgd d e _ ho B T i0 _ 2 24 hS hi hz0 hz1 hz2 rfl (by decide) v l.length (cellsE l) hs hown ad 0 cap [] hx rfl (by intro j u hj; simp at hj) (by simp) (by unfold maxLen; omega) (by omega) hB fun v' w' h1 h2 _ => fin v' w' h1 h2
  · refine wpList_append_own W hgd d e _ ho B T i0 _ 2 24 hS hi hz0 hz1 hz2 rfl (by decide) v l.length (cellsE l) hs hown ⟨b, of, none⟩ m.length cap (cellsE m) hx (cellsE_len m) ?_ (cellsE_one m) (by unfold maxLen; omega) (by omega) hB fun v' w' h1 h2 _ => fin v' w' h1 h2
    intro j u hu
    rw [Addr.add_lit]
    have hj : j < (cellsE m).length := (List.getElem?_eq_some_iff.1 hu).1
    rw [cellsE_len] at hj
    obtain ⟨a1, a2⟩ := hcell (j / 2) (by omega)
    obtain ⟨b1, b2⟩ := cellsE_get m (j / 2) (by omega)
    by_cases he : j % 2 = 0
    · rw [show j = j / 2 * 2 by omega] at hu ⊢
      rw [b1] at hu
      rw [← hu]; exact a1
    · rw [show j = j / 2 * 2 + 1 by omega] at hu ⊢
      rw [b2] at hu
      rw [← hu, ← Nat.add_assoc]; exact a2
end Go.Proofs.Ytncneoggnoiknaa.Du
