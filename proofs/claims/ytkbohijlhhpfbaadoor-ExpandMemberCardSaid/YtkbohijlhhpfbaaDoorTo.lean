/- What the laws of this layer use besides: a rule in its box; errandref20's SameInts (gathered by gen_help.py). -/
import Derived.Test.YtkbohijlhhpfbaaDoorTn
import Derived.Test.YtkbohijlhhpfbaaDoorLc
namespace Go.Proofs.YtkbohijlhhpfbaaDoor.Tm
open Go.RowKit Ru Ut Cw Ra
def BoxR (W : World) (b : Nat) (r : R) (sv : Nat → Value) : Prop := W.cell? ⟨b, 0, none⟩ = some (.int .u8 r.freq) ∧ W.cell? ⟨b, 1, none⟩ = some (.int .i64 r.interval) ∧ W.cell? ⟨b, 2, none⟩ = some (.int .i64 r.count) ∧ W.cell? ⟨b, 3, none⟩ = some (.int .u8 r.uk) ∧ W.cell? ⟨b, 4, none⟩ = some (.int .i64 r.us) ∧ W.cell? ⟨b, 5, none⟩ = some (sv 4) ∧ W.cell? ⟨b, 6, none⟩ = some (sv 5) ∧ W.cell? ⟨b, 7, none⟩ = some (sv 6) ∧ W.cell? ⟨b, 8, none⟩ = some (sv 7) ∧ W.cell? ⟨b, 9, none⟩ = some (sv 8) ∧ W.cell? ⟨b, 10, none⟩ = some (sv 9) ∧ W.cell? ⟨b, 11, none⟩ = some (sv 10) ∧ W.cell? ⟨b, 12, none⟩ = some (sv 11) ∧ W.cell? ⟨b, 13, none⟩ = some (sv 12) ∧ W.cell? ⟨b, 14, none⟩ = some (.int .i64 r.wkst)
theorem BoxR.keep {W W2 : World} {b : Nat} {r : R} {sv : Nat → Value} (h : BoxR W b r sv) (hb : b < W.heap.size) (hB : Below W.heap.size W W2) : BoxR W2 b r sv := by
  have k : ∀ i v, W.cell? ⟨b, i, none⟩ = some v → W2.cell? ⟨b, i, none⟩ = some v := fun i v hv => (hB.cell (p := ⟨b, i, none⟩) hb).trans hv
  obtain ⟨h0, h1, h2, h3, h4, h5, h6, h7, h8, h9, h10, h11, h12, h13, h14⟩ := h
  exact ⟨k _ _ h0, k _ _ h1, k _ _ h2, k _ _ h3, k _ _ h4, k _ _ h5, k _ _ h6, k _ _ h7, k _ _ h8, k _ _ h9, k _ _ h10, k _ _ h11, k _ _ h12, k _ _ h13, k _ _ h14⟩
theorem BoxR.new (w : World) (r : R) (sv : Nat → Value) (t : TypeId) : BoxR (w.alloc (.cells (ruleC r sv) t)) w.heap.size r sv :=
  ⟨(World.cell?_alloc_new w (ruleC r sv) t 0).trans rfl, (World.cell?_alloc_new w (ruleC r sv) t 1).trans rfl, (World.cell?_alloc_new w (ruleC r sv) t 2).trans rfl, (World.cell?_alloc_new w (ruleC r sv) t 3).trans rfl, (World.cell?_alloc_new w (ruleC r sv) t 4).trans rfl, (World.cell?_alloc_new w (ruleC r sv) t 5).trans rfl, (World.cell?_alloc_new w (ruleC r sv) t 6).trans rfl, (World.cell?_alloc_new w (ruleC r sv) t 7).trans rfl, (World.cell?_alloc_new w (ruleC r sv) t 8).trans rfl, (World.cell?_alloc_new w (ruleC r sv) t 9).trans rfl, (World.cell?_alloc_new w (ruleC r sv) t 10).trans rfl, (World.cell?_alloc_new w (ruleC r sv) t 11).trans rfl, (World.cell?_alloc_new w (ruleC r sv) t 12).trans rfl, (World.cell?_alloc_new w (ruleC r sv) t 13).trans rfl, (World.cell?_alloc_new w (ruleC r sv) t 14).trans rfl⟩
theorem size1 {w W : World} {o : Obj} (h : Below (w.alloc o).heap.size (w.alloc o) W) : w.heap.size < W.heap.size := by
  have := h.size; rw [World.size_alloc] at this; omega
theorem Below.next_allocs'' {w W : World} {o p : Obj} (h : Below ((w.alloc o).alloc p).heap.size ((w.alloc o).alloc p) W) : Below (w.alloc o).heap.size (w.alloc o) W := Below.next_allocs' h
theorem two_cell {w w1 : World} {o : Obj} {A : Array Value} {T : TypeId} (hB : Below ((w.alloc o).alloc (.cells A T)).heap.size ((w.alloc o).alloc (.cells A T)) w1) (i : Nat) {v : Value} (h : A[i]? = some v) : w1.cell? ⟨w.heap.size + 1, i, none⟩ = some v := by
  have h0 := World.cell?_alloc_new (w.alloc o) A T i
  rw [World.size_alloc] at h0
  exact (hB.cell (p := ⟨w.heap.size + 1, i, none⟩) (by simp only [World.size_alloc]; omega)).trans (h0.trans h)
theorem size2 {w w1 : World} {o p : Obj} (hB : Below ((w.alloc o).alloc p).heap.size ((w.alloc o).alloc p) w1) : w.heap.size + 1 < w1.heap.size := by
  have := hB.size
  simp only [World.size_alloc] at this
  omega
theorem kk_two {w : World} {A : Array Value} {T : TypeId} {b : Nat} {r : R} {sv : Nat → Value} (h : BoxR w b r sv) (hb : b < w.heap.size) : BoxR (w.alloc (.cells A T)) b r sv := h.keep hb (Below.next_alloc (Below.refl _ _) _)
theorem same_take {l m : List Int} (h : l.length = m.length) {k : Nat} (hk : l.length ≤ k) (ht : l.take k = m.take k) : l = m := by
  rwa [List.take_of_length_le hk, List.take_of_length_le (by omega)] at ht
theorem secsOf_few (r : R) (start a b : Int) : (secsOf r start a b).length ≤ 86400 := by
  rw [secs_eq]
  unfold rsecs
  split
  · exact RH_le r start a b (Nat.le_refl _)
  · simp
end Go.Proofs.YtkbohijlhhpfbaaDoor.Tm
