/- Graphs, names, an edge and three names as they come in as arguments. -/
import Derived.Test.YthelkkbjflohgaaHj
import Derived.ProofKit
import Derived.OpenShut
import Derived.Deep.DeepHandedRow
import Derived.Deep.SlicePairs
import Derived.SliceStrings
import Derived.Lib.SmallJoins
namespace Go.Proofs.Ythelkkbjflohgaa.Ds
open Go.ChangeShapes Go.WideShapes Go.ChangeAt Go.RowKit Go.Deep
section
variable {H : Type} {enc : TypeId × Value → H} {P : Program} {w : World}
def bsOf : Value → ByteArray
  | .string s => s
  | _ => ByteArray.empty
theorem open_edges {r : Reach} {b0 : Nat} {t e : TypeId} {f0 f1 : Field} {v : Value} {d : DataW H} {p : List MemPlace} (ht : P.underlying t = some (.slice e)) (he : P.underlying e = some (.struct #[f0, f1]))
    (ce : P.cellsOf e = 2) (o0 : f0.offset = 0) (o1 : f1.offset = 1) (c0 : P.cellsOf f0.type = 1) (c1 : P.cellsOf f1.type = 1) (u0 : P.underlying f0.type = some .string) (u1 : P.underlying f1.type = some .string)
    (hv : Value.okWide P w r b0 t v) (h : DataW.Trod enc P w 0 (fun _ => true) true t v d p) : ∃ es, Edgs w v es := by
  obtain ⟨a0, l0, k0, rfl⟩ := okWide_slice ht hv
  obtain ⟨n, h⟩ := h
  rcases open_slice_pairs ht he ce o0 o1 c0 c1 h with ⟨hc, _⟩ | ⟨a, len, cap, m, k, V0, V1, D0, D1, P0, P1, hc, _, hl, hm, hmm, hx, hall⟩
  · simp only [Value.cells, List.cons.injEq, and_true] at hc
    obtain ⟨rfl, rfl, rfl⟩ := Value.slice.inj hc
    exact ⟨[], .inl ⟨rfl, _, _, rfl, fun _ => rfl⟩⟩
  · simp only [Value.cells, List.cons.injEq, and_true] at hc
    obtain ⟨rfl, rfl, rfl⟩ := Value.slice.inj hc
    simp only [if_true] at hmm
    subst hmm
    by_cases h0 : 0 < l0
    · obtain ⟨b, o, spot⟩ := a
      have hspot : spot = none := by simpa [Addr.add] using World.cell?_spot (hall 0 (by omega)).1
      subst hspot
      have hs : ∀ i, i < l0 → V0 i = .string (bsOf (V0 i)) ∧ V1 i = .string (bsOf (V1 i)) := fun i hi => by
        have hh := hall i (by omega)
        obtain ⟨s, h1, _, _⟩ := DataW.trod_string u0 hh.2.2.1
        obtain ⟨z, h2, _, _⟩ := DataW.trod_string u1 hh.2.2.2
        simp only [List.cons.injEq, and_true] at h1 h2
        rw [h1, h2]; exact ⟨rfl, rfl⟩
      have hblk : b < w.heap.size := World.block_lt_of_cell? (a := (⟨b, o, none⟩ : Addr).add (0 * 2)) _ (hall 0 (by omega)).1
      refine ⟨(List.range l0).map fun i => (bsOf (V0 i), bsOf (V1 i)), .inr ⟨by simpa using h0, b, o, m, by simp, hblk, by simpa using hl, fun i hi => ?_⟩⟩
      have hi' : i < l0 := by simpa using hi
      have hh := hall i (by omega)
      have g := hs i hi'
      simp only [List.getElem_map, List.getElem_range]
      rw [← g.1, ← g.2]
      have e1 := hh.1
      have e2 := hh.2.1
      rw [add_eq] at e1 e2
      exact ⟨e1, by rw [Nat.add_assoc]; exact e2⟩
    · obtain rfl : l0 = 0 := by omega
      exact ⟨[], .inl ⟨rfl, _, _, rfl, fun h => by cases h⟩⟩
theorem open_names {r : Reach} {b0 : Nat} {t e : TypeId} {v : Value} {d : DataW H} {p : List MemPlace} (ht : P.underlying t = some (.slice e)) (he : P.underlying e = some .string) (hc : P.cellsOf e = 1)
    (hv : Value.okWide P w r b0 t v) (h : DataW.Trod enc P w 0 (fun _ => true) true t v d p) : ∃ ss, Strs w v ss := by
  obtain ⟨a0, l0, k0, rfl⟩ := okWide_slice ht hv
  obtain ⟨n, h⟩ := h
  rcases open_strings ht he hc h with ⟨hc, _⟩ | ⟨a, len, cap, ss, hc, _, hl, hm, hlen, _, hall, _⟩
  · simp only [Value.cells, List.cons.injEq, and_true] at hc
    obtain ⟨rfl, rfl, rfl⟩ := Value.slice.inj hc
    exact ⟨[], .inl ⟨rfl, _, _, rfl, fun _ => rfl⟩⟩
  · simp only [Value.cells, List.cons.injEq, and_true] at hc
    obtain ⟨rfl, rfl, rfl⟩ := Value.slice.inj hc
    simp only [if_true] at hlen
    by_cases h0 : 0 < l0
    · obtain ⟨b, o, spot⟩ := a
      have hspot : spot = none := by simpa [Addr.add] using World.cell?_spot (hall 0 (by omega))
      subst hspot
      have hblk : b < w.heap.size := World.block_lt_of_cell? (a := (⟨b, o, none⟩ : Addr).add 0) _ (hall 0 (by omega))
      have hlt : (ss.take l0).length = l0 := by rw [List.length_take]; omega
      refine ⟨ss.take l0, .inr ⟨by omega, b, o, k0, by rw [hlt], hblk, by omega, fun i hi => ?_⟩⟩
      have e1 := hall i (by omega)
      rw [add_eq] at e1
      rw [e1, List.getElem_take, List.getD_eq_getElem?_getD, List.getElem?_eq_getElem (by omega)]
      rfl
    · obtain rfl : l0 = 0 := by omega
      exact ⟨[], .inl ⟨rfl, _, _, rfl, fun h => by cases h⟩⟩
theorem open_edge {r : Reach} {b0 : Nat} {t : TypeId} {f0 f1 : Field} {v : Value} {d : DataW H} {p : List MemPlace} (hs : P.underlying t = some (.struct #[f0, f1])) (hone : oneCellFields P #[f0, f1] = true) (hC : P.cellsOf t = 2)
    (u0 : P.underlying f0.type = some .string) (u1 : P.underlying f1.type = some .string) (hv : Value.okWide P w r b0 t v) (h : DataW.Trod enc P w 0 (fun _ => true) true t v d p) : ∃ x y, v = .agg #[.string x, .string y] := by
  obtain ⟨v0, v1, y0, y1, n, rfl, _, _, h0, h1⟩ := Joins.open_agg2 hs hone hC hv h
  obtain ⟨x, h2, _, _⟩ := DataW.trod_string u0 h0
  obtain ⟨y, h3, _, _⟩ := DataW.trod_string u1 h1
  simp only [List.cons.injEq, and_true] at h2 h3
  subst h2 h3
  exact ⟨x, y, rfl⟩
theorem open_three {r : Reach} {b0 : Nat} {t e : TypeId} {v : Value} {d : DataW H} {p : List MemPlace} (ht : P.underlying t = some (.array 3 e)) (he : P.underlying e = some .string) (hC : P.cellsOf t = 3) (hc : P.cellsOf e = 1)
    (hv : Value.okWide P w r b0 t v) (h : DataW.Trod enc P w 0 (fun _ => true) true t v d p) : ∃ x y z, v = .agg #[.string x, .string y, .string z] := by
  unfold Value.okWide at hv
  rw [ht] at hv
  obtain ⟨cs, rfl, hsz, _⟩ := hv
  obtain ⟨fuel, hf⟩ := h
  obtain ⟨xs, m, _, _, _, hx2, hx3⟩ := DataW.trod_array ht hf
  rw [hC] at hsz
  have key : ∀ i (hi : i < cs.toList.length), ∃ z, cs.toList[i] = .string z := by
    intro i hi
    have h3 := hx3 i (by simp at hi; omega)
    rw [hc, List.getElem?_eq_getElem (by simp at hi; omega)] at h3
    obtain ⟨z, hz, _, _⟩ := DataW.trod_string he h3
    refine ⟨z, ?_⟩
    have hd : ((cs.toList.drop (i * 1)).take 1)[0]? = some (Value.string z) := by
      simp only [Value.cells] at hz
      rw [hz]; rfl
    rw [List.getElem?_take, if_pos (by omega), List.getElem?_drop] at hd
    simp only [Nat.mul_one, Nat.add_zero] at hd
    rw [List.getElem?_eq_getElem hi] at hd
    exact Option.some.inj hd
  obtain ⟨cs⟩ := cs
  match cs, hsz, key with
  | [c0, c1, c2], _, key =>
    obtain ⟨x, h0⟩ := key 0 (by simp)
    obtain ⟨y, h1⟩ := key 1 (by simp)
    obtain ⟨z, h2⟩ := key 2 (by simp)
    simp at h0 h1 h2
    subst h0 h1 h2
    exact ⟨x, y, z, rfl⟩
end
end Go.Proofs.Ythelkkbjflohgaa.Ds
