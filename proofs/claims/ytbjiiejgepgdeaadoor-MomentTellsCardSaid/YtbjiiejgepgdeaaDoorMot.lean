/- An array of two structs, each a byte and an integer, by value: what it is in memory. -/
import Derived.Test.YtbjiiejgepgdeaaDoorBase
namespace Go.Proofs.YtbjiiejgepgdeaaDoor.Mot
open Go.ChangeShapes Go.WideShapes Go.ChangeAt Go.RowKit
theorem open_two {H : Type} {enc : TypeId × Value → H} {P : Program} {w : World} {base : Nat} {spare : Nat → Bool} {held : Bool} {r : Reach} {b0 : Nat} {t e : TypeId} {f0 f1 : Field} {v : Value} {d : DataW H} {p : List MemPlace}
    (ht : P.underlying t = some (.array 2 e)) (he : P.underlying e = some (.struct #[f0, f1])) (h0 : P.underlying f0.type = some (.int .u8)) (h1 : P.underlying f1.type = some (.int .i64)) (o0 : f0.offset = 0) (o1 : f1.offset = 1)
    (hCt : P.cellsOf t = 4) (hCe : P.cellsOf e = 2) (hC0 : P.cellsOf f0.type = 1) (hC1 : P.cellsOf f1.type = 1) (hv : Value.okWide P w r b0 t v) (h : DataW.Trod enc P w base spare held t v d p) :
    ∃ k s l u : Int, v = .agg #[.int .u8 k, .int .i64 s, .int .u8 l, .int .i64 u] ∧ (Lit.int .u8 k).wf = true ∧ (Lit.int .u8 l).wf = true := by
  unfold Value.okWide at hv
  rw [ht] at hv
  obtain ⟨cs, rfl, hsz, _⟩ := hv
  rw [hCt] at hsz
  obtain ⟨cl⟩ := cs
  match cl, hsz with
  | [c0, c1, c2, c3], _ =>
    obtain ⟨fuel, hf⟩ := h
    obtain ⟨xs, m, _, _, _, hx2, hx3⟩ := DataW.trod_array ht hf
    have part : ∀ (a b : Value) (x : DataW H × List MemPlace), DataW.trod enc P w base spare held m e [a, b] = some x → ∃ k s : Int, a = .int .u8 k ∧ b = .int .i64 s ∧ (Lit.int .u8 k).wf = true := by
      intro a b x hx
      obtain ⟨ys, n, _, _, _, hy, hg⟩ := DataW.trod_struct he hx
      have g0 := hg 0 f0 rfl
      have g1 := hg 1 f1 rfl
      have hy2 : ys.length = 2 := hy
      rw [o0, hC0, List.getElem?_eq_getElem (by omega)] at g0
      rw [o1, hC1, List.getElem?_eq_getElem (by omega)] at g1
      obtain ⟨k, hk, _, hw⟩ := DataW.trod_int h0 g0
      obtain ⟨s, hs, _, _⟩ := DataW.trod_int h1 g1
      refine ⟨k, s, ?_, ?_, hw⟩
      · simpa [Value.cells] using hk
      · simpa [Value.cells] using hs
    have p0 := hx3 0 (by omega)
    have p1 := hx3 1 (by omega)
    rw [hCe, List.getElem?_eq_getElem (by omega)] at p0 p1
    obtain ⟨k, s, rfl, rfl, w0⟩ := part c0 c1 _ (by simpa [Value.cells] using p0)
    obtain ⟨l, u, rfl, rfl, w1⟩ := part c2 c3 _ (by simpa [Value.cells] using p1)
    exact ⟨k, s, l, u, rfl, w0, w1⟩
end Go.Proofs.YtbjiiejgepgdeaaDoor.Mot
