/- The walk through the program's Order. -/
import Derived.Test.YthelkkbjflohgaaGl
import Derived.Test.YthelkkbjflohgaaGm
import Derived.Deep.RegionHeld3
namespace Go.Proofs.Ythelkkbjflohgaa.Ds
open Go.RowKit Ut Gr Go.Maps
theorem comp_spec (l : List ByteArray) : (compL (sortL l)).Pairwise (fun a b => ltN a b = true) ∧ (∀ x, x ∈ compL (sortL l) ↔ x ∈ l) ∧ (compL (sortL l)).length ≤ l.length ∧ (Lib.compact ((sortL l).map bs)).length ≤ (sortL l).length := by
  obtain ⟨h1, h2, h3⟩ := compact_sorted (sort_sorted (l.map bs))
  have hs : (sortL l).map bs = (l.map bs).mergeSort fun x y => decide (x ≤ y) := map_bs_un _
  have hl : (sortL l).length = l.length := by unfold sortL; rw [List.length_map, List.length_mergeSort, List.length_map]
  unfold compL
  rw [hs]
  refine ⟨?_, fun x => ?_, ?_, ?_⟩
  · rw [List.pairwise_map]
    exact h1.imp fun h => ltN_iff.2 h
  · rw [List.mem_map]
    constructor
    · rintro ⟨y, hy, rfl⟩
      have := (h2 y).1 hy
      rw [List.mem_mergeSort, List.mem_map] at this
      obtain ⟨z, hz, rfl⟩ := this
      exact hz
    · intro hx
      exact ⟨bs x, (h2 _).2 (by rw [List.mem_mergeSort]; exact List.mem_map_of_mem hx), rfl⟩
  · rw [List.length_map]
    rw [List.length_mergeSort, List.length_map] at h3
    exact h3
  · rw [hl]
    rw [List.length_mergeSort, List.length_map] at h3
    exact h3
theorem step_del {ops : Array Oper} {o : Oper} {a : Act} {w : World} {K : Act → World → Prop} {Q : Exit → Act → World → Prop} {E : Prop} (hg : o.guard = none) (m x : Operand) (hop : o.op = Op.call { callee := Callee.builtin Builtin.delete, args := #[m, x], argTypes := #[55, 9] }) (b n : Nat) (S S' : List ByteArray) (hm : a.eval m = .map (some b)) (h : MapS w b n S) (s : ByteArray) (hx : a.eval x = .string s) (hs : s.size ≤ maxLen) (hS : ∀ x, x ∈ S' ↔ x ∈ S ∧ x ≠ s)
    (hK : ∀ w', MapS w' b n S' → w.grownBy w' (some b) → K (a.put o.dst (.tuple #[])) w') : if Region.wanted o (yielded ops a.tmps) = true then Oper.wp Try.prog o a w K Q else E := by
  have hw : Region.wanted o (yielded ops a.tmps) = true := by simp [Region.wanted, hg]
  rw [if_pos hw]
  obtain ⟨D, h1, h2⟩ := h
  obtain ⟨w', hrun, r1, r2⟩ := h1.drop lawS Try.underlying55 (key_of hs) o.type
  unfold Oper.wp
  simp [execOp, hop, resolve, invoke, builtin, hm, hx, hrun, Result.andThen]
  exact hK w' ⟨_, r1, holds1_del h2 hS⟩ r2.grown
set_option maxHeartbeats 1000000 in
theorem order1_any {w : World} {v : Value} {l : List (ByteArray × ByteArray)} {L : List ByteArray} {m nL : Nat} (cb mb : Nat) (s : ByteArray) (e0 : w.cell? ⟨cb, 0, none⟩ = some v) (e1 : w.cell? ⟨mb, 0, none⟩ = some (.map (some m))) (hl : Edgs w v l) (hn : l.length ≤ 1000) (hz : Short l) (hL : MapS w m nL L) :
    Calls Try.prog 32 #[.string s, .pointer (some ⟨cb, 0, none⟩), .pointer (some ⟨mb, 0, none⟩)] w fun e w' => e = .returned (.bool (freeB l L s)) ∧ Below w.heap.size w w' := by
  have F := Lib.hid (free_any s hl hn hz hL)
  obtain ⟨a, c, rfl⟩ := hl.slice
  clear hl hz hL
  go_enter Try.func32, Try.ntmps32
  go_wp2_with (first
    | (go_at_call 33; (with_reducible refine F.out.mono ?_); rintro e w1 ⟨rfl, hB⟩))
  go_ret
  exact ⟨rfl, hB⟩
theorem free_iff {l : List (ByteArray × ByteArray)} {L cur : List ByteArray} (h : ∀ x, x ∈ L ↔ x ∈ cur) (s : ByteArray) : freeB l L s = true ↔ Free l cur s := by
  unfold freeB Free
  rw [Bool.not_eq_true', List.any_eq_false]
  constructor
  · intro k y hy hw
    exact k y ((h y).2 hy) (way_iff.2 hw)
  · intro k y hy hw
    exact k y ((h y).1 hy) (way_iff.1 hw)
/-- how the loop stands -/
def OrdS (w W wr : World) (l : List (ByteArray × ByteArray)) (names : List ByteArray) (gk : Nat) (v6 v10 : Value) : Prop :=
  ∃ cur acc L n, cur.length = gk ∧ OwnS wr (w.heap.size + 1) v6 cur ∧ (∀ g, v6.ownBlock = some g → g < W.heap.size) ∧ OwnS wr (W.heap.size + 2) v10 acc ∧ MapS wr W.heap.size n L ∧ (∀ x, x ∈ L ↔ x ∈ cur) ∧
    wr.cell? ⟨W.heap.size + 1, 0, none⟩ = some (.map (some W.heap.size)) ∧ cur.Pairwise (fun a b => ltN a b = true) ∧ Acc ltN l names acc cur ∧ acc.length + cur.length ≤ 1000 ∧ (∀ x ∈ cur, x.size ≤ maxLen) ∧ Below (w.heap.size + 1) W wr ∧ W.heap.size + 2 ≤ wr.heap.size
theorem OwnS.low {w w' : World} {B C : Nat} {v : Value} {l : List ByteArray} (h : OwnS w B v l) (hv : ∀ g, v.ownBlock = some g → g < C) (hB : Below C w w') : OwnS w' B v l := by
  refine ⟨h.1, h.2.imp id ?_⟩
  rintro ⟨g, cap, cur, rfl, h2, h3, h4⟩
  exact ⟨g, cap, cur, rfl, h2, (hB.block g (hv g rfl)).trans h3, h4⟩
theorem OwnS.lt' {w : World} {B : Nat} {v : Value} {l : List ByteArray} (h : OwnS w B v l) : ∀ g, v.ownBlock = some g → g < w.heap.size := by
  rcases h with ⟨_, ⟨rfl, _⟩ | ⟨g, cap, cur, rfl, _, hg, _⟩⟩
  · intro g hg; cases hg
  · intro g' hg'; cases hg'; exact (Array.getElem?_eq_some_iff.1 hg).1
/-- what Order gives -/
def GivesO (w : World) (l : List (ByteArray × ByteArray)) (names : List ByteArray) (e : Ending) (w' : World) : Prop :=
  ∃ o b x, e = .returned (.tuple #[x, .bool b]) ∧ Run ltN l names o b ∧ OwnS w' w.heap.size x o ∧ Below w.heap.size w w'
end Go.Proofs.Ythelkkbjflohgaa.Ds
