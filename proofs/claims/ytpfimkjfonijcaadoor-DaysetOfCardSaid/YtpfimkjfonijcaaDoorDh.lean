/- The walk through dayset's lets (printed by gen_lets.py). -/
import Derived.Test.YtpfimkjfonijcaaDoorDg
import Derived.Test.YtpfimkjfonijcaaDoorWw
namespace Go.Proofs.YtpfimkjfonijcaaDoor.Da
open Go.RowKit Ru Ut Cw Ra
/-- the rule's cells at the head of block b -/
def BoxR (W : World) (b : Nat) (r : R) (sv : Nat → Value) : Prop := W.cell? ⟨b, 0, none⟩ = some (.int .u8 r.freq) ∧ W.cell? ⟨b, 1, none⟩ = some (.int .i64 r.interval) ∧ W.cell? ⟨b, 2, none⟩ = some (.int .i64 r.count) ∧ W.cell? ⟨b, 3, none⟩ = some (.int .u8 r.uk) ∧ W.cell? ⟨b, 4, none⟩ = some (.int .i64 r.us) ∧ W.cell? ⟨b, 5, none⟩ = some (sv 4) ∧ W.cell? ⟨b, 6, none⟩ = some (sv 5) ∧ W.cell? ⟨b, 7, none⟩ = some (sv 6) ∧ W.cell? ⟨b, 8, none⟩ = some (sv 7) ∧ W.cell? ⟨b, 9, none⟩ = some (sv 8) ∧ W.cell? ⟨b, 10, none⟩ = some (sv 9) ∧ W.cell? ⟨b, 11, none⟩ = some (sv 10) ∧ W.cell? ⟨b, 12, none⟩ = some (sv 11) ∧ W.cell? ⟨b, 13, none⟩ = some (sv 12) ∧ W.cell? ⟨b, 14, none⟩ = some (.int .i64 r.wkst)
/-- the cells of a day's facts at the head of block b -/
def BoxF (W : World) (b : Nat) (f : Dy.F) : Prop := W.cell? ⟨b, 0, none⟩ = some (.int .i64 f.day) ∧ W.cell? ⟨b, 1, none⟩ = some (.int .i64 f.month) ∧ W.cell? ⟨b, 2, none⟩ = some (.int .i64 f.date) ∧ W.cell? ⟨b, 3, none⟩ = some (.int .i64 f.weekday) ∧ W.cell? ⟨b, 4, none⟩ = some (.int .i64 f.inMonth) ∧ W.cell? ⟨b, 5, none⟩ = some (.int .i64 f.inYear) ∧ W.cell? ⟨b, 6, none⟩ = some (.int .i64 f.place) ∧ W.cell? ⟨b, 7, none⟩ = some (.int .i64 f.n0) ∧ W.cell? ⟨b, 8, none⟩ = some (.int .i64 f.n1) ∧ W.cell? ⟨b, 9, none⟩ = some (.int .i64 f.n2) ∧ W.cell? ⟨b, 10, none⟩ = some (.int .i64 f.n3)
theorem BoxR.keep {W W2 : World} {b : Nat} {r : R} {sv : Nat → Value} (h : BoxR W b r sv) (hb : b < W.heap.size) (hB : Below W.heap.size W W2) : BoxR W2 b r sv := by
  have k : ∀ i v, W.cell? ⟨b, i, none⟩ = some v → W2.cell? ⟨b, i, none⟩ = some v := fun i v hv => (hB.cell (p := ⟨b, i, none⟩) hb).trans hv
  obtain ⟨h0, h1, h2, h3, h4, h5, h6, h7, h8, h9, h10, h11, h12, h13, h14⟩ := h
  exact ⟨k _ _ h0, k _ _ h1, k _ _ h2, k _ _ h3, k _ _ h4, k _ _ h5, k _ _ h6, k _ _ h7, k _ _ h8, k _ _ h9, k _ _ h10, k _ _ h11, k _ _ h12, k _ _ h13, k _ _ h14⟩
theorem BoxF.keep {W W2 : World} {b : Nat} {f : Dy.F} (h : BoxF W b f) (hb : b < W.heap.size) (hB : Below W.heap.size W W2) : BoxF W2 b f := by
  have k : ∀ i v, W.cell? ⟨b, i, none⟩ = some v → W2.cell? ⟨b, i, none⟩ = some v := fun i v hv => (hB.cell (p := ⟨b, i, none⟩) hb).trans hv
  obtain ⟨h0, h1, h2, h3, h4, h5, h6, h7, h8, h9, h10⟩ := h
  exact ⟨k _ _ h0, k _ _ h1, k _ _ h2, k _ _ h3, k _ _ h4, k _ _ h5, k _ _ h6, k _ _ h7, k _ _ h8, k _ _ h9, k _ _ h10⟩
theorem BoxR.new (w : World) (r : R) (sv : Nat → Value) (t : TypeId) : BoxR (w.alloc (.cells (ruleC r sv) t)) w.heap.size r sv :=
  ⟨(World.cell?_alloc_new w (ruleC r sv) t 0).trans rfl, (World.cell?_alloc_new w (ruleC r sv) t 1).trans rfl, (World.cell?_alloc_new w (ruleC r sv) t 2).trans rfl, (World.cell?_alloc_new w (ruleC r sv) t 3).trans rfl, (World.cell?_alloc_new w (ruleC r sv) t 4).trans rfl, (World.cell?_alloc_new w (ruleC r sv) t 5).trans rfl, (World.cell?_alloc_new w (ruleC r sv) t 6).trans rfl, (World.cell?_alloc_new w (ruleC r sv) t 7).trans rfl, (World.cell?_alloc_new w (ruleC r sv) t 8).trans rfl, (World.cell?_alloc_new w (ruleC r sv) t 9).trans rfl, (World.cell?_alloc_new w (ruleC r sv) t 10).trans rfl, (World.cell?_alloc_new w (ruleC r sv) t 11).trans rfl, (World.cell?_alloc_new w (ruleC r sv) t 12).trans rfl, (World.cell?_alloc_new w (ruleC r sv) t 13).trans rfl, (World.cell?_alloc_new w (ruleC r sv) t 14).trans rfl⟩
theorem BoxF.new (w : World) (f : Dy.F) (t : TypeId) : BoxF (w.alloc (.cells (factsC f) t)) w.heap.size f :=
  ⟨(World.cell?_alloc_new w (factsC f) t 0).trans rfl, (World.cell?_alloc_new w (factsC f) t 1).trans rfl, (World.cell?_alloc_new w (factsC f) t 2).trans rfl, (World.cell?_alloc_new w (factsC f) t 3).trans rfl, (World.cell?_alloc_new w (factsC f) t 4).trans rfl, (World.cell?_alloc_new w (factsC f) t 5).trans rfl, (World.cell?_alloc_new w (factsC f) t 6).trans rfl, (World.cell?_alloc_new w (factsC f) t 7).trans rfl, (World.cell?_alloc_new w (factsC f) t 8).trans rfl, (World.cell?_alloc_new w (factsC f) t 9).trans rfl, (World.cell?_alloc_new w (factsC f) t 10).trans rfl⟩
end Go.Proofs.YtpfimkjfonijcaaDoor.Da
