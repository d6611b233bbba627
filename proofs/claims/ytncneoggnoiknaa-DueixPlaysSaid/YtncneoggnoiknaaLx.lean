/- Steps that turn no block that is there but one: chained; one list more as a step of a region that draws. -/
import Derived.Test.YtncneoggnoiknaaAx
import Derived.Laws.AppendOwnNone
namespace Go.Proofs.Ytncneoggnoiknaa.Du
open Go.RowKit Sp Ut Me
/-- of what is there, the block r alone may turn -/
def GR (r : Option Nat) (a b : World) : Prop := World.grownBy a b r
theorem GR.refl (r : Option Nat) (a : World) : GR r a a := ⟨rfl, rfl, rfl, Nat.le_refl _, fun _ _ _ => rfl⟩
theorem GR.trans {r : Option Nat} {a b c : World} (h : GR r a b) (k : GR r b c) : GR r a c :=
  ⟨k.os.trans h.os, k.tape.trans h.tape, k.output.trans h.output, Nat.le_trans h.size k.size, fun i hi hr => (k.block i (Nat.lt_of_lt_of_le hi h.size) hr).trans (h.block i hi hr)⟩
theorem GR.of_below {r : Option Nat} {a b : World} (h : Below a.heap.size a b) : GR r a b := ⟨h.os, h.tape, h.output, h.size, fun k hk _ => h.block k hk⟩
theorem GR.alloc {r : Option Nat} {a b : World} (h : GR r a b) (o : Obj) : GR r a (b.alloc o) := h.trans (GR.of_below ((Below.refl _ _).alloc (Nat.le_refl _) o))
theorem GR.drew {r : Option Nat} {a b : World} (h : GR r a b) : GR r a b.drew := ⟨h.os, h.tape, h.output, h.size, h.block⟩
theorem GR.drewN {r : Option Nat} {a b : World} (h : GR r a b) (n : Nat) : GR r a (b.drewN n) := ⟨h.os, h.tape, h.output, h.size, h.block⟩
theorem GR.below {r : Option Nat} {a b : World} {B : Nat} (h : GR r a b) (hB : B ≤ a.heap.size) (hr : ∀ k, r = some k → B ≤ k) : Below B a b :=
  ⟨h.os, h.tape, h.output, h.size, fun k hk => h.block k (by omega) fun e => by have := hr k e.symm; omega⟩
theorem GR.ents {r : Option Nat} {a b : World} {v : Value} {l : List E} (h : Ents a v l) (k : GR r a b) (hv : ∀ j, v.ownBlock = some j → some j ≠ r) : Ents b v l :=
  h.block k.size fun j hj hlt => k.block j hlt (hv j hj)
theorem GR.has {r : Option Nat} {a b : World} {p : Nat} {O : Nat → Prop} {m : List E} (h : Has a p O m) (k : GR r a b) (hr : ∀ j, O j → some j ≠ r) : Has b p O m := by
  obtain ⟨v, SS, h1, h2, rfl⟩ := h
  refine ⟨v, SS, ⟨(k.block p h1.plt (hr p (.inl rfl))).trans h1.ptr, ?_, fun s hs => ⟨?_, (h1.segs s hs).2⟩, h1.apart, h1.ok⟩, h2, rfl⟩
  · refine ⟨h1.lists.1, ?_⟩
    rcases h1.lists.2 with h2 | ⟨g, cap, cur, rfl, h3, h4, h5⟩
    · exact .inl h2
    · exact .inr ⟨g, cap, cur, rfl, h3, (k.block g (lt_of h4) (hr g (.inr (.inl rfl)))).trans h4, h5⟩
  · obtain ⟨⟨cur, g1, g2⟩, _⟩ := h1.segs s hs
    exact ⟨cur, (k.block s.b (lt_of g1) (hr s.b (.inr (.inr ⟨s, hs, rfl⟩)))).trans g1, g2⟩
/-- a list more, as one step of a region that draws -/
theorem step_push_list {ops : Array Oper} {o : Oper} {a : Act} {K : Act → World → Prop} {Q : Exit → Act → World → Prop} {X : Prop} {W : World} {T S : TypeId}
    (hT : (Try.prog.info? T).map (fun i => (i.zero, i.size, i.bytes)) = some (some (.agg #[.int .i64 0, .string ByteArray.empty]), 2, 24)) (hS : Try.prog.underlying S = some (.slice T)) (hgd : o.guard = none) (d e : Operand)
    (ho : o.op = .call { callee := .builtin .append, args := #[d, e], argTypes := #[S, S] }) (B : Nat) (v : Value) (l m : List E) (hs : a.eval d = v) (hown : OwnR T W B v l)
    (vx : Value) (hx : a.eval e = vx) (hm : Ents W vx m) (hn : l.length + m.length ≤ 1000000) (hB : B ≤ W.heap.size)
    (h : ∀ v' w', OwnR T w' B v' (l ++ m) → GR v.ownBlock W w' → K (a.put o.dst v') w') : if Region.wanted o (yielded ops a.tmps) = true then Oper.wp Try.prog o a W K Q else X := by
  have hw : Region.wanted o (yielded ops a.tmps) = true := by simp [Region.wanted, hgd]
  rw [if_pos hw]
  obtain ⟨i0, hi, hz0, hz1, hz2⟩ := info_parts hT
  have fin : ∀ v' w', w'.ownsRow B T 2 v' (l.length + m.length) (cellsE l ++ cellsE m) → W.grownBy w' v.ownBlock → K (a.put o.dst v') w' := fun v' w' h1 h2 =>
    h v' w' (by unfold OwnR; rw [cellsE_append, List.length_append]; exact h1) h2
  rcases hm with ⟨rfl, b, cap, rfl, hb⟩ | ⟨h0, b, of, cap, rfl, hlt, hc, hcell⟩
  · cases b with
    | none =>
      obtain rfl := hb rfl
      have hrun := run_append_owned_none (P := Try.prog) (w := W) B S o.type T i0 2 hS hi v l.length (cellsE l) hown
      have hk := h v W (by rw [List.append_nil]; exact hown) (GR.refl _ _)
      unfold Oper.wp
      simp [execOp, ho, resolve, invoke, builtin, hs, hx, hrun, Result.andThen]
      exact hk
    | some ad =>
      exact wp_append_own W d e _ ho B T i0 _ 2 24 hS hi hz0 hz1 hz2 rfl (by decide) v l.length (cellsE l) hs hown ad 0 cap [] hx rfl (by intro j u hj; simp at hj) (by simp) (by unfold maxLen; omega) (by omega) hB fun v' w' h1 h2 _ => fin v' w' h1 h2
  · refine wp_append_own W d e _ ho B T i0 _ 2 24 hS hi hz0 hz1 hz2 rfl (by decide) v l.length (cellsE l) hs hown ⟨b, of, none⟩ m.length cap (cellsE m) hx (cellsE_len m) ?_ (cellsE_one m) (by unfold maxLen; omega) (by omega) hB fun v' w' h1 h2 _ => fin v' w' h1 h2
    intro j u hu
    rw [Addr.add_lit]
    have hj : j < (cellsE m).length := (List.getElem?_eq_some_iff.1 hu).1
    rw [cellsE_len] at hj
    obtain ⟨a1, a2⟩ := hcell (j / 2) (by omega)
    obtain ⟨b1, b2⟩ := cellsE_get m (j / 2) (by omega)
    by_cases he : j % 2 = 0
    · rw [show j = j / 2 * 2 by omega] at hu ⊢
      rw [b1] at hu
      rw [← hu]; exact a1
    · rw [show j = j / 2 * 2 + 1 by omega] at hu ⊢
      rw [b2] at hu
      rw [← hu, ← Nat.add_assoc]; exact a2
/-- a boxed array of three, in a later world -/
theorem boxed3 {w w1 : World} {a b c : Value} {t : TypeId} (h : Below (w.alloc (.cells #[a, b, c] t)).heap.size (w.alloc (.cells #[a, b, c] t)) w1) :
    w.heap.size < w1.heap.size ∧ w1.cell? ⟨w.heap.size, 0, none⟩ = some a ∧ w1.cell? ⟨w.heap.size, 1, none⟩ = some b ∧ w1.cell? ⟨w.heap.size, 2, none⟩ = some c := by
  have hs := h.size
  have e : (w.alloc (.cells #[a, b, c] t)).heap.size = w.heap.size + 1 := by simp
  have hb := (h.block w.heap.size (by rw [e]; exact Nat.lt_succ_self _)).trans (heap_alloc_new w _)
  exact ⟨by omega, cell_of hb 0, cell_of hb 1, cell_of hb 2⟩
end Go.Proofs.Ytncneoggnoiknaa.Du
