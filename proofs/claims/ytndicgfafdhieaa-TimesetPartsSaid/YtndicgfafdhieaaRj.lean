/- Slices of integers that the call itself makes. -/
import Derived.Test.YtndicgfafdhieaaRa
import Derived.Maps.AppendAt
namespace Go.Proofs.Ytndicgfafdhieaa.Ra
open Go.RowKit Ut
theorem infoInt : (Try.prog.info? 3).map (fun i => (i.zero, i.size, i.bytes)) = some (some (.int .i64 0), 1, 8) := by kernel_rfl
def ic (l : List Int) : List Value := l.map (Value.int .i64)
theorem ic_length (l : List Int) : (ic l).length = l.length := by simp [ic]
theorem ic_snoc (l : List Int) (z : Int) : ic (l ++ [z]) = ic l ++ [.int .i64 z] := by simp [ic]
theorem ic_append (l m : List Int) : ic (l ++ m) = ic l ++ ic m := by simp [ic]
/-- the call's own row from block B on: v holds the integers l -/
def OwnI (w : World) (B : Nat) (v : Value) (l : List Int) : Prop := w.ownsRow B 3 1 v l.length (ic l)
theorem OwnI.nil (w : World) (B : Nat) : OwnI w B (.slice none 0 0) [] := World.ownsRow_nil _ _ _ _
theorem ownsRow_below {w W : World} {B E sz : Nat} {v : Value} {n : Nat} {xs : List Value} (h : w.ownsRow B E sz v n xs) (hB : Below w.heap.size w W) : W.ownsRow B E sz v n xs := by
  refine ⟨h.1, h.2.imp id ?_⟩
  rintro ⟨g, cap, cur, h1, h2, h3, h4⟩
  exact ⟨g, cap, cur, h1, h2, (hB.block g (Array.getElem?_eq_some_iff.1 h3).1).trans h3, h4⟩
theorem OwnI.below {w W : World} {B : Nat} {v : Value} {l : List Int} (h : OwnI w B v l) (hB : Below w.heap.size w W) : OwnI W B v l := ownsRow_below h hB
theorem OwnI.ints {w : World} {B : Nat} {v : Value} {l : List Int} (h : OwnI w B v l) : Ints w v l := by
  by_cases h0 : l.length = 0
  · obtain rfl : l = [] := List.length_eq_zero_iff.1 h0
    refine .inl ⟨rfl, ?_⟩
    rcases h.2 with ⟨rfl, _⟩ | ⟨g, cap, cur, rfl, _⟩
    · exact ⟨none, 0, rfl, fun _ => rfl⟩
    · exact ⟨_, cap, rfl, fun h => by cases h⟩
  · obtain ⟨g, cap, rfl, hb, hg, hc, _, hcell⟩ := ownsRow_pos h (by omega)
    exact .inr ⟨by omega, g, 0, cap, rfl, hg, hc, fun i hi => by
      have := hcell i (.int .i64 l[i]) (by simp [ic, hi])
      simpa using this⟩
theorem OwnI.slice {w : World} {B : Nat} {v : Value} {l : List Int} (h : OwnI w B v l) : ∃ a c, v = .slice a l.length c := by
  rcases h.2 with ⟨rfl, h0⟩ | ⟨g, cap, cur, rfl, _⟩
  · exact ⟨none, 0, by rw [h0]⟩
  · exact ⟨_, _, rfl⟩
/-- 'append(out, z)' -/
theorem push_int {ops : Array Oper} {rest : List Oper} {o : Oper} {a : Act} {Q : Exit → Act → World → Prop} {W : World} {T' : TypeId} {z : Int} (hgd : o.guard = none) (s x : Operand)
    (ho : o.op = .call { callee := .builtin .append, args := #[s, x], argTypes := #[24, 24] }) (B : Nat) (v : Value) (l : List Int) (hs : a.eval s = v) (hown : OwnI W B v l)
    (hx : a.eval x = .slice (some ⟨W.heap.size, 0, none⟩) 1 1) (hn : l.length ≤ 1000000) (hB : B ≤ W.heap.size)
    (h : ∀ v' w', OwnI w' B v' (l ++ [z]) → Below B W w' → wpList Try.prog ops Q rest (a.put o.dst v') w') : wpList Try.prog ops Q (o :: rest) a (W.alloc (.cells #[.int .i64 z] T')) := by
  obtain ⟨i0, hi, hz0, hz1, hz2⟩ := info_parts infoInt
  refine wpList_append_own (W.alloc (.cells #[.int .i64 z] T')) hgd s x _ ho B 3 i0 (.int .i64 0) 1 8 Try.underlying24 hi hz0 hz1 hz2 rfl (by decide) v l.length (ic l) hs (World.ownsRow.alloc hown _)
    ⟨W.heap.size, 0, none⟩ 1 1 [.int .i64 z] hx rfl (cell_one_new _ _ _) (by simp [Value.oneCell']) (by unfold maxLen; omega) (by omega) (by simp; omega) fun v' w' h1 h2 _ => ?_
  refine h v' w' ?_ (((Below.refl B W).alloc hB _).grown h2 (by simp; omega) fun k hk => (hown.lt k hk).1)
  unfold OwnI
  rw [ic_snoc, List.length_append]
  exact h1
/-- what a call gives that makes a slice of integers -/
def Gives (w : World) (l : List Int) (e : Ending) (w' : World) : Prop := ∃ v, e = .returned v ∧ OwnI w' w.heap.size v l ∧ Below w.heap.size w w'
theorem OwnI.base {w : World} {B B' : Nat} {v : Value} {l : List Int} (h : OwnI w B v l) (hb : B' ≤ B) : OwnI w B' v l := ownsRow_base h hb
end Go.Proofs.Ytndicgfafdhieaa.Ra
