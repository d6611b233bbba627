/- An index's contracts over the list that it has: for the walks of the laws. -/
import Derived.Test.YtncneoggnoiknaaWn
namespace Go.Proofs.Ytncneoggnoiknaa.Du
open Go.RowKit Sp Ut Me
/-- an index at p, its blocks O, its entries m -/
def Has (w : World) (p : Nat) (O : Nat → Prop) (m : List E) : Prop := ∃ v SS, Idx w p v SS ∧ allE SS = m ∧ O = Own p v SS
theorem Has.below {w w' : World} {p : Nat} {O : Nat → Prop} {m : List E} (h : Has w p O m) (hb : Below w.heap.size w w') : Has w' p O m := by
  obtain ⟨v, SS, h1, h2, h3⟩ := h
  exact ⟨v, SS, h1.below hb, h2, h3⟩
theorem Has.lt {w : World} {p : Nat} {O : Nat → Prop} {m : List E} (h : Has w p O m) : ∀ k, O k → k < w.heap.size := by
  obtain ⟨v, SS, h1, h2, rfl⟩ := h
  exact h1.own_lt
theorem Has.sor {w : World} {p : Nat} {O : Nat → Prop} {m : List E} (h : Has w p O m) : Sor m := by
  obtain ⟨v, SS, h1, rfl, h3⟩ := h
  exact h1.ok.1
/-- what was below a mark stands, where the index lies above it -/
theorem Moved.below {w w' : World} {O O' : Nat → Prop} {B : Nat} (h : Moved O O' w w') (hO : ∀ k, O k → B ≤ k) (hB : B ≤ w.heap.size) : Below B w w' :=
  ⟨h.os, h.tape, h.output, h.size, fun k hk => h.block k (by omega) fun ho => by have := hO k ho; omega⟩
theorem Moved.above {w w' : World} {O O' : Nat → Prop} {B : Nat} (h : Moved O O' w w') (hO : ∀ k, O k → B ≤ k) (hB : B ≤ w.heap.size) : ∀ k, O' k → B ≤ k := fun k hk => by
  rcases h.own k hk with h1 | h1
  · exact hO k h1
  · omega
/-- a list that lies outside the index -/
theorem Ents.moved {w w' : World} {O O' : Nat → Prop} {v : Value} {l : List E} (h : Ents w v l) (k : Moved O O' w w') (ho : ∀ b, v.ownBlock = some b → ¬ O b) : Ents w' v l :=
  h.block k.size fun b hb hlt => k.block b hlt (ho b hb)
section
variable {w : World} {p : Nat} {O : Nat → Prop} {m : List E} (y : Int) (t : ByteArray)
theorem newH (w : World) : Calls Try.prog 9 #[] w fun e w' => ∃ p O, e = .returned (.pointer (some ⟨p, 0, none⟩)) ∧ Has w' p O [] ∧ (∀ k, O k → w.heap.size ≤ k) ∧ Below w.heap.size w w' := by
  refine (new_any w).mono ?_
  rintro e w' ⟨p, rfl, h2, h3, h4⟩
  refine ⟨p, _, rfl, ⟨_, [], h3, rfl, rfl⟩, ?_, h4⟩
  rintro k (rfl | hk | ⟨s, hs, _⟩)
  · exact h2
  · cases hk
  · cases hs
theorem putH (q : Bool) (m' : List E) (h : Has w p O m) (hm : m.length ≤ 1000) (hq : (!hasE m (y, t)) = q) (hm' : putE m (y, t) = m') :
    Calls Try.prog 13 #[.pointer (some ⟨p, 0, none⟩), .agg #[.int .i64 y, .string t]] w fun e w' => e = .returned (.bool q) ∧ ∃ O', Has w' p O' m' ∧ Moved O O' w w' := by
  obtain ⟨v, SS, h1, rfl, rfl⟩ := h
  refine (put_any y t h1 hm).mono ?_
  rintro e w' ⟨v', SS', rfl, h2, h3, h4⟩
  exact ⟨by rw [hq], _, ⟨v', SS', h2, h3.trans hm', rfl⟩, h4⟩
theorem dropH (q : Bool) (m' : List E) (h : Has w p O m) (hm : m.length ≤ 1000) (hq : hasE m (y, t) = q) (hm' : eraF m (y, t) = m') :
    Calls Try.prog 15 #[.pointer (some ⟨p, 0, none⟩), .agg #[.int .i64 y, .string t]] w fun e w' => e = .returned (.bool q) ∧ ∃ O', Has w' p O' m' ∧ Moved O O' w w' := by
  obtain ⟨v, SS, h1, rfl, rfl⟩ := h
  refine (drop_any y t h1 hm).mono ?_
  rintro e w' ⟨v', SS', rfl, h2, h3, h4⟩
  exact ⟨by rw [hq], _, ⟨v', SS', h2, h3.trans hm', rfl⟩, h4⟩
theorem hasH (q : Bool) (h : Has w p O m) (hm : m.length ≤ 1000) (hq : hasE m (y, t) = q) :
    Calls Try.prog 10 #[.pointer (some ⟨p, 0, none⟩), .agg #[.int .i64 y, .string t]] w fun e w' => e = .returned (.bool q) ∧ Below w.heap.size w w' := by
  obtain ⟨v, SS, h1, rfl, rfl⟩ := h
  rw [← hq]; exact has_any y t h1 hm
theorem lenH (n : Nat) (h : Has w p O m) (hn : m.length = n) : Calls Try.prog 22 #[.pointer (some ⟨p, 0, none⟩)] w fun e w' => e = .returned (.int .i64 n) ∧ w = w' := by
  obtain ⟨v, SS, h1, rfl, rfl⟩ := h
  rw [← hn]; exact len_any h1
theorem allH (h : Has w p O m) (hm : m.length ≤ 1000) : Calls Try.prog 23 #[.pointer (some ⟨p, 0, none⟩)] w (GivesR 29 w m) := by
  obtain ⟨v, SS, h1, rfl, rfl⟩ := h
  exact all_any h1 hm
theorem btwH (a b : Int) (h : Has w p O m) (hm : m.length ≤ 1000) : Calls Try.prog 20 #[.pointer (some ⟨p, 0, none⟩), .int .i64 a, .int .i64 b] w (GivesR 29 w (btw a b m)) := by
  obtain ⟨v, SS, h1, rfl, rfl⟩ := h
  exact between_any a b h1 hm
theorem nextH (V : Value) (h : Has w p O m) (hm : m.length ≤ 1000) (hV : nxtV (m.find? fun x => less (y, t) x) = V) :
    Calls Try.prog 16 #[.pointer (some ⟨p, 0, none⟩), .agg #[.int .i64 y, .string t]] w fun e w' => e = .returned V ∧ Below w.heap.size w w' := by
  obtain ⟨v, SS, h1, rfl, rfl⟩ := h
  rw [← hV]; exact next_any y t h1 hm
end
end Go.Proofs.Ytncneoggnoiknaa.Du
