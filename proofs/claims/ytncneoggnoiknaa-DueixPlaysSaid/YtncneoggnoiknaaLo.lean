/- The arguments of the laws, opened: an entry, a slice of entries. -/
import Derived.Test.YtncneoggnoiknaaRw
import Derived.ProofKit
import Derived.OpenShut
import Derived.Deep.DeepHandedRow
import Derived.Deep.SlicePairs
import Derived.WideShapes
import Derived.ChangeMaps5
import Derived.Lib.SmallJoins
namespace Go.Proofs.Ytncneoggnoiknaa.Du
open Go.ChangeShapes Go.WideShapes Go.ChangeAt Go.RowKit Go.Deep
def strOf : Value → ByteArray
  | .string s => s
  | _ => ByteArray.empty
def i64Of : Value → Int
  | .int _ z => z
  | _ => 0
section
variable {H : Type} {enc : TypeId × Value → H} {P : Program} {w : World}
theorem add_eq (b o j : Nat) : (⟨b, o, none⟩ : Addr).add j = ⟨b, o + j, none⟩ := by
  unfold Addr.add; split <;> simp_all
theorem open_ent {r : Reach} {b0 : Nat} {t : TypeId} {f0 f1 : Field} {v : Value} {d : DataW H} {p : List MemPlace} (hs : P.underlying t = some (.struct #[f0, f1])) (hone : oneCellFields P #[f0, f1] = true) (hC : P.cellsOf t = 2)
    (u0 : P.underlying f0.type = some (.int .i64)) (u1 : P.underlying f1.type = some .string) (hv : Value.okWide P w r b0 t v) (h : DataW.Trod enc P w 0 (fun _ => true) true t v d p) : ∃ x y, v = .agg #[.int .i64 x, .string y] := by
  obtain ⟨v0, v1, y0, y1, n, rfl, _, _, h0, h1⟩ := Joins.open_agg2 hs hone hC hv h
  obtain ⟨x, h2, _, _⟩ := DataW.trod_int u0 h0
  obtain ⟨y, h3, _, _⟩ := DataW.trod_string u1 h1
  simp only [List.cons.injEq, and_true] at h2 h3
  subst h2 h3
  exact ⟨x, y, rfl⟩
theorem open_ents {r : Reach} {b0 : Nat} {t e : TypeId} {f0 f1 : Field} {v : Value} {d : DataW H} {p : List MemPlace} (ht : P.underlying t = some (.slice e)) (he : P.underlying e = some (.struct #[f0, f1]))
    (ce : P.cellsOf e = 2) (o0 : f0.offset = 0) (o1 : f1.offset = 1) (c0 : P.cellsOf f0.type = 1) (c1 : P.cellsOf f1.type = 1) (u0 : P.underlying f0.type = some (.int .i64)) (u1 : P.underlying f1.type = some .string)
    (hv : Value.okWide P w r b0 t v) (h : DataW.Trod enc P w 0 (fun _ => true) true t v d p) : ∃ es, Ents w v es := by
  obtain ⟨a0, l0, k0, rfl⟩ := okWide_slice ht hv
  obtain ⟨n, h⟩ := h
  rcases open_slice_pairs ht he ce o0 o1 c0 c1 h with ⟨hc, _⟩ | ⟨a, len, cap, m, k, V0, V1, D0, D1, P0, P1, hc, _, hl, hm, hmm, hx, hall⟩
  · simp only [Value.cells, List.cons.injEq, and_true] at hc
    obtain ⟨rfl, rfl, rfl⟩ := Value.slice.inj hc
    exact ⟨[], .inl ⟨rfl, _, _, rfl, fun _ => rfl⟩⟩
  · simp only [Value.cells, List.cons.injEq, and_true] at hc
    obtain ⟨rfl, rfl, rfl⟩ := Value.slice.inj hc
    simp only [if_true] at hmm
    subst hmm
    by_cases h0 : 0 < l0
    · obtain ⟨b, o, spot⟩ := a
      have hspot : spot = none := by simpa [Addr.add] using World.cell?_spot (hall 0 (by omega)).1
      subst hspot
      have hs : ∀ i, i < l0 → V0 i = .int .i64 (i64Of (V0 i)) ∧ V1 i = .string (strOf (V1 i)) := fun i hi => by
        have hh := hall i (by omega)
        obtain ⟨z, h1, _, _⟩ := DataW.trod_int u0 hh.2.2.1
        obtain ⟨s, h2, _, _⟩ := DataW.trod_string u1 hh.2.2.2
        simp only [List.cons.injEq, and_true] at h1 h2
        rw [h1, h2]; exact ⟨rfl, rfl⟩
      have hblk : b < w.heap.size := World.block_lt_of_cell? (a := (⟨b, o, none⟩ : Addr).add (0 * 2)) _ (hall 0 (by omega)).1
      refine ⟨(List.range l0).map fun i => (i64Of (V0 i), strOf (V1 i)), .inr ⟨by simpa using h0, b, o, m, by simp, hblk, by simpa using hl, fun i hi => ?_⟩⟩
      have hi' : i < l0 := by simpa using hi
      have hh := hall i (by omega)
      have g := hs i hi'
      simp only [List.getElem_map, List.getElem_range]
      rw [← g.1, ← g.2]
      have e1 := hh.1
      have e2 := hh.2.1
      rw [add_eq] at e1 e2
      exact ⟨e1, by rw [Nat.add_assoc]; exact e2⟩
    · obtain rfl : l0 = 0 := by omega
      exact ⟨[], .inl ⟨rfl, _, _, rfl, fun h => by cases h⟩⟩
end
end Go.Proofs.Ytncneoggnoiknaa.Du
