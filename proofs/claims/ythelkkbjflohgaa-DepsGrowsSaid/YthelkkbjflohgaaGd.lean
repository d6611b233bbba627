/- A map of texts to numbers as the set of its keys. -/
import Derived.Test.YthelkkbjflohgaaGc
import Derived.Maps.OwnSet
import Derived.Maps.OwnOps
import Derived.Deep.LoopGhost
import Derived.OwnWalk
namespace Go.Proofs.Ythelkkbjflohgaa.Ds
open Go.RowKit Ut Gr Go.WideMaps Go.Maps
theorem lawS : Keyed Try.prog 9 := string_keyed Try.underlying9
theorem zeroI (w : World) : (zeroValue 3).run Try.prog w = .ok (.int .i64 0) w := by kernel_rfl
/-- what a text reads as, as a key -/
def kl (s : ByteArray) : Lit := .string s.data.toList
theorem kl_inj {s t : ByteArray} (h : kl s = kl t) : s = t := by
  unfold kl at h
  injection h with h
  exact ByteArray.ext (Array.toList_inj.mp h)
theorem key_of {s : ByteArray} (h : s.size ≤ maxLen) : keyOf Try.prog 9 (.string s) = some (kl s) := keyOf_string_mk Try.underlying9 h
theorem isKey (s : ByteArray) : WideAt.IsKeyLit (kl s) := trivial
def one01 (b : Bool) : Int := if b = true then 1 else 0
/-- the datum D holds 1 at just the texts S -/
def Holds1 (D : DataW Unit) (S : List ByteArray) : Prop := IsMap D ∧ ∀ x : ByteArray, D.atKey (kl x) (.lit (.int .i64 0)) = .lit (.int .i64 (one01 (isIn x S))) ∧ Maps.has D (kl x) = isIn x S
theorem holds1_nil : Holds1 (.map []) [] := ⟨isMap_empty, fun x => ⟨by rw [isIn_no (by simp)]; simp [DataW.atKey, one01], by rw [isIn_no (by simp)]; simp [Maps.has]⟩⟩
theorem holds1_put {D : DataW Unit} {S : List ByteArray} (h : Holds1 D S) (s : ByteArray) : Holds1 (D.put (kl s) (.lit (.int .i64 1))) (s :: S) := by
  refine ⟨h.1.put _ _, fun x => ?_⟩
  by_cases hx : x = s
  · subst hx
    rw [atKey_put_same h.1 (isKey x), has_put_same h.1 (isKey x), isIn_yes (List.mem_cons_self ..)]
    exact ⟨rfl, rfl⟩
  · have hk : kl x ≠ kl s := fun e => hx (kl_inj e)
    rw [atKey_put_other hk, has_put_other hk, (h.2 x).1, (h.2 x).2]
    have : isIn x (s :: S) = isIn x S := isIn_congr (by simp [hx])
    rw [this]
    exact ⟨rfl, rfl⟩
theorem holds1_del {D : DataW Unit} {S S' : List ByteArray} {s : ByteArray} (h : Holds1 D S) (hS : ∀ x, x ∈ S' ↔ x ∈ S ∧ x ≠ s) : Holds1 (D.del (kl s)) S' := by
  refine ⟨h.1.del _, fun x => ?_⟩
  by_cases hx : x = s
  · subst hx
    rw [atKey_del_same, has_del_same]
    have : isIn x S' = false := isIn_no (by rw [hS]; simp)
    rw [this]
    exact ⟨rfl, rfl⟩
  · have hk : kl x ≠ kl s := fun e => hx (kl_inj e)
    rw [atKey_del_other hk, has_del_other hk, (h.2 x).1, (h.2 x).2]
    have : isIn x S' = isIn x S := isIn_congr (by rw [hS]; simp [hx])
    rw [this]
    exact ⟨rfl, rfl⟩
/-- block b is a map of at most n entries, 1 at just the texts S -/
def MapS (w : World) (b n : Nat) (S : List ByteArray) : Prop := ∃ D : DataW Unit, w.ownsMap Try.prog 9 (plainElem Try.prog 3) b n D ∧ Holds1 D S
theorem MapS.lt {w : World} {b n : Nat} {S : List ByteArray} (h : MapS w b n S) : b < w.heap.size := let ⟨_, h1, _⟩ := h; h1.lt
theorem MapS.kept {w w' : World} {b n : Nat} {S : List ByteArray} {row : Option Nat} (h : MapS w b n S) (hg : w.grownBy w' row) (hne : some b ≠ row) : MapS w' b n S := let ⟨D, h1, h2⟩ := h; ⟨D, h1.kept hg hne, h2⟩
theorem MapS.below {w w' : World} {b n : Nat} {S : List ByteArray} (h : MapS w b n S) (hB : Below w.heap.size w w') : MapS w' b n S := by
  obtain ⟨D, ⟨es, clock, h1, h2, h3, h4⟩, hD⟩ := h
  exact ⟨D, ⟨es, clock, (hB.block b (Array.getElem?_eq_some_iff.1 h1).1).trans h1, h2, h3, h4⟩, hD⟩
theorem MapS.mono {w : World} {b n n' : Nat} {S : List ByteArray} (h : MapS w b n S) (hn : n ≤ n') : MapS w b n' S := let ⟨D, h1, h2⟩ := h; ⟨D, h1.mono hn, h2⟩
theorem MapS.made (w : World) : MapS (w.alloc (.map #[] 0)) w.heap.size 0 [] := ⟨.map [], World.ownsMap_made _ _ _ _, holds1_nil⟩
section
variable {w : World} {ops : Array Oper} {rest : List Oper} {o : Oper} {a : Act} {Q : Exit → Act → World → Prop}
theorem look_set (hg : o.guard = none) (m x : Operand) (hop : o.op = Op.lookup 55 m x false) (b n : Nat) (S : List ByteArray) (hm : a.eval m = .map (some b)) (h : MapS w b n S) (s : ByteArray) (hx : a.eval x = .string s) (hs : s.size ≤ maxLen) (c : Int) (hc : one01 (isIn s S) = c)
    (hK : wpList Try.prog ops Q rest (a.put o.dst (.int .i64 c)) w) : wpList Try.prog ops Q (o :: rest) a w := by
  obtain ⟨D, h1, h2⟩ := h
  refine wpList_lookup_own_int w hg m x _ hop 9 3 .i64 lawS Try.underlying55 Try.underlying3 (zeroI _) b n D hm h1 _ (kl s) hx (key_of hs) fun c' hat _ => ?_
  have := (h2.2 s).1.symm.trans hat
  injection this with this
  injection this with _ this
  rw [← this, hc]
  exact hK
theorem put_set (hg : o.guard = none) (m x v : Operand) (hop : o.op = Op.mapUpdate 55 m x v) (b n : Nat) (S : List ByteArray) (hm : a.eval m = .map (some b)) (h : MapS w b n S) (hn : n ≤ 1000000) (s : ByteArray) (hx : a.eval x = .string s) (hv : a.eval v = .int .i64 1) (hs : s.size ≤ maxLen)
    (hK : ∀ w', MapS w' b (n + 1) (s :: S) → w.grownBy w' (some b) → wpList Try.prog ops Q rest (a.put o.dst undef) w') : wpList Try.prog ops Q (o :: rest) a w := by
  obtain ⟨D, h1, h2⟩ := h
  exact wpList_mapUpdate_own w hg m x v _ hop 9 3 lawS Try.underlying55 (plainElem Try.prog 3) b n D hm h1 (by unfold maxLen; omega) _ _ (kl s) hx hv (key_of hs) _ [] (plainElem_int Try.underlying3 (WalkArith.wf_i64 (by omega))) fun w' r1 r2 => hK w' ⟨_, r1, holds1_put h2 s⟩ r2
theorem del_set (hg : o.guard = none) (m x : Operand) (hop : o.op = Op.call { callee := Callee.builtin Builtin.delete, args := #[m, x], argTypes := #[55, 9] }) (b n : Nat) (S S' : List ByteArray) (hm : a.eval m = .map (some b)) (h : MapS w b n S) (s : ByteArray) (hx : a.eval x = .string s) (hs : s.size ≤ maxLen) (hS : ∀ x, x ∈ S' ↔ x ∈ S ∧ x ≠ s)
    (hK : ∀ w', MapS w' b n S' → w.grownBy w' (some b) → wpList Try.prog ops Q rest (a.put o.dst (.tuple #[])) w') : wpList Try.prog ops Q (o :: rest) a w := by
  obtain ⟨D, h1, h2⟩ := h
  refine wpList_delete_own w hg m x _ 9 hop 3 lawS Try.underlying55 (plainElem Try.prog 3) b n D hm h1 _ (kl s) hx (key_of hs) fun w' r1 r2 => hK w' ⟨_, r1, holds1_del h2 hS⟩ r2.grown
end
end Go.Proofs.Ythelkkbjflohgaa.Ds
