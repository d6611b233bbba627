/- Whether a choice has a number: the walk. -/
import Derived.Test.YtndicgfafdhieaaTa
namespace Go.Proofs.Ytndicgfafdhieaa.Tm
open Go.RowKit Go.Shelf Ut Ra
attribute [local go_sem] Oper.semAt_some
theorem keepsL_b {L : List Nat} {W0 : World} (hL : ∀ b ∈ L, b < W0.heap.size) : ∀ (W : World) (l : Nat) (o o' : Obj), W0.heap.size ≤ l → W.heap[l]? = some o → o.isCells = false → o.isWalk = false → KeepsL L W (W.putObj l o') :=
  fun _ _ _ _ h _ _ _ => KeepsL.putObj (fun b hb e => by have := hL b hb; omega)
theorem cell_new_l (W : World) (v : Value) (t : TypeId) : (W.alloc (.cells #[v] t)).cell? ⟨W.heap.size, 0, none⟩ = some v ∧ (W.alloc (.cells #[v] t)).frozen? ⟨W.heap.size, 0, none⟩ = false := by
  have h := World.alloc_heap_new W (.cells #[v] t)
  generalize W.alloc (.cells #[v] t) = X at h ⊢
  constructor <;> simp [World.cell?, World.frozen?, h]
theorem cell_alloc_l {W : World} {a : Addr} {v : Value} (o : Obj) (h : W.cell? a = some v) : (W.alloc o).cell? a = some v := cell_kept h (World.grownBy_alloc W o none) (fun r e => by cases e)
theorem frozen_alloc_l {W : World} {a : Addr} {v : Value} (o : Obj) (h : W.cell? a = some v) (hf : W.frozen? a = false) : (W.alloc o).frozen? a = false := (frozen_kept h (World.grownBy_alloc W o none) (fun r e => by cases e)).trans hf
/-- the blocks of a list of integers -/
def blkOf : Value → List Nat
  | .slice (some a) _ _ => [a.block]
  | _ => []
theorem intsL {w W : World} {v : Value} {l : List Int} {L : List Nat} (h : Ints w v l) (hB : Below w.heap.size w W) (hL : ∀ b ∈ blkOf v, b ∈ L) : IntsL L W v l := by
  rcases h with ⟨rfl, a, cap, rfl, -⟩ | ⟨h0, b, o, cap, rfl, hlt, hc, hcell⟩
  · exact .inl ⟨rfl, a, cap, rfl⟩
  · exact .inr ⟨h0, b, o, cap, rfl, hL b (by simp [blkOf]), hc, fun i hi => (hB.cell (p := ⟨b, o + i, none⟩) hlt).trans (hcell i hi)⟩
theorem blkOf_lt {w : World} {v : Value} {l : List Int} (h : Ints w v l) (h0 : 0 < l.length) : ∀ b ∈ blkOf v, b < w.heap.size := by
  rcases h with ⟨rfl, -⟩ | ⟨_, b, o, cap, rfl, hlt, _⟩
  · simp at h0
  · intro b' hb; simp [blkOf] at hb; subst hb; exact hlt
/-- a list's block, where it has one that is read -/
def blkL (v : Value) (l : List Int) : List Nat := if l.length = 0 then [] else blkOf v
theorem blkL_lt {w : World} {v : Value} {l : List Int} (h : Ints w v l) : ∀ b ∈ blkL v l, b < w.heap.size := by
  unfold blkL
  split
  · simp
  · exact blkOf_lt h (by omega)
theorem intsL' {w W : World} {v : Value} {l : List Int} {L : List Nat} (h : Ints w v l) (hB : Below w.heap.size w W) (hL : ∀ b ∈ blkL v l, b ∈ L) : IntsL L W v l := by
  by_cases h0 : l.length = 0
  · obtain rfl := List.length_eq_zero_iff.1 h0
    rcases h with ⟨-, a, cap, rfl, -⟩ | ⟨h, _⟩
    · exact .inl ⟨rfl, a, cap, rfl⟩
    · simp at h
  · exact intsL h hB (by unfold blkL at hL; rwa [if_neg h0] at hL)
theorem enters1 : ∀ args w, (callFunc 46 args).run Try.prog w = .ok (.enter 46 args) w := enters_of Try.func46 (by kernel_rfl) rfl
set_option maxRecDepth 100000 in
set_option maxHeartbeats 4000000 in
theorem has_in (F : Fence) (n : Nat) (h18 : F.fn 18) (h33 : F.fn 33) (h46 : F.fn 46) (hro : F.round = none) (hn : 3 ≤ n) {w : World} {v : Value} {a : Nat} {l : List Int} (want : Int) (hI : Ints w v l) (ha : a ≤ 1000) (hl : l.length ≤ 1000) :
    CallsIn F n Try.prog 18 #[.agg #[v, .int .i64 a], .int .i64 want] w fun e W' => e = .returned (.bool (decide (want ∈ chL a l))) ∧ Below w.heap.size w W' := by
  have h1 : 1 ≤ n := by omega
  refine callsIn_of_wp_marks Try.func18 rfl h18 ?_ hro
  simp only [Try.ntmps18, List.size_toArray, List.length_cons, List.length_nil, Nat.reduceAdd, Nat.reduceSub, Array.replicate_succ, Array.replicate_zero, List.push_toArray, List.append_toArray, List.nil_append, List.cons_append]
  gi_wp2_with (gi_at_call 33; refine (each_in F (n - 1) h33 hro _ _ _).mono ?_; rintro e w' ⟨rfl, rfl⟩)
  have hB0 : Below w.heap.size w (((w.alloc (.cells #[v, .int .i64 a] 50)).alloc (.cells #[.int .i64 want] 3)).alloc (.cells #[.bool false] 4)) := (((Below.refl _ w).alloc (Nat.le_refl _) _).alloc (by simp) _).alloc (by simp; omega) _
  have hsz : (((w.alloc (.cells #[v, .int .i64 a] 50)).alloc (.cells #[.int .i64 want] 3)).alloc (.cells #[.bool false] 4)).heap.size = w.heap.size + 1 + 1 + 1 := by simp
  have c0 := cell_alloc_l (.cells #[.bool false] 4) (cell_new_l (w.alloc (.cells #[v, .int .i64 a] 50)) (.int .i64 want) 3).1
  have c1 := cell_new_l ((w.alloc (.cells #[v, .int .i64 a] 50)).alloc (.cells #[.int .i64 want] 3)) (.bool false) 4
  simp only [World.size_alloc] at c0 c1
  obtain ⟨W0, hW0⟩ : ∃ W0, ((w.alloc (.cells #[v, .int .i64 a] 50)).alloc (.cells #[.int .i64 want] 3)).alloc (.cells #[.bool false] 4) = W0 := ⟨_, rfl⟩
  rw [hW0] at hB0 hsz c0 c1 ⊢
  clear hW0
  have hk0 : (W0.alloc (.cells #[v, .int .i64 a] 50)).cell? ⟨w.heap.size + 1 + 1 + 1, 0, none⟩ = some v := by rw [← hsz]; simp [World.cell?_alloc_new]
  have hk1 : (W0.alloc (.cells #[v, .int .i64 a] 50)).cell? ⟨w.heap.size + 1 + 1 + 1, 1, none⟩ = some (.int .i64 a) := by rw [← hsz]; simp [World.cell?_alloc_new]
  have hB1 : Below w.heap.size w (W0.alloc (.cells #[v, .int .i64 a] 50)) := hB0.alloc (by omega) _
  have hlt : ∀ b ∈ (w.heap.size + 1 + 1 + 1) :: blkL v l, b < (W0.alloc (.cells #[v, .int .i64 a] 50)).heap.size := fun b hb => by
    rw [World.size_alloc]
    rcases List.mem_cons.1 hb with rfl | hb
    · omega
    · have := blkL_lt hI b hb; omega
  refine wpIn_rangeFunc_ownF hro h1 (gf := 46) (lb := #[.pointer (some ⟨w.heap.size + 1 + 1 + 1, 0, none⟩)]) rfl h46 enters1
    (each_stops F (n - 1) h46 hro (by omega) ((w.heap.size + 1 + 1 + 1) :: blkL v l) (w.heap.size + 1 + 1 + 1) a v l ha hl (W0.alloc (.cells #[v, .int .i64 a] 50)) hlt ⟨List.mem_cons_self .., hk0, hk1, intsL' hI hB1 (fun b hb => List.mem_cons_of_mem _ hb)⟩)
    KeepsL.trans (keepsL_b hlt) (Below.refl _ _) (fun _ => rfl)
    (fun pre W => ((∀ y ∈ pre, y ≠ want) ∧ W.cell? ⟨w.heap.size + 1, 0, none⟩ = some (.int .i64 want) ∧ W.cell? ⟨w.heap.size + 1 + 1, 0, none⟩ = some (.bool false) ∧ W.frozen? ⟨w.heap.size + 1 + 1, 0, none⟩ = false) ∧ Below w.heap.size w W)
    (fun c pre W => (c = .ret ∧ want ∈ pre ∧ W.cell? ⟨w.heap.size + 1 + 1, 0, none⟩ = some (.bool true)) ∧ Below w.heap.size w W)
    (OwnFrom.and (Own.from (fun s A B row hs hg hr => ⟨hs.1, cell_kept hs.2.1 hg hr, cell_kept hs.2.2.1 hg hr, (frozen_kept hs.2.2.1 hg hr).trans hs.2.2.2⟩) _) (ownFrom_below (Nat.le_refl _) (by simp; omega)))
    (fun c => OwnFrom.and (Own.from (fun s A B row hs hg hr => ⟨hs.1, hs.2.1, cell_kept hs.2.2 hg hr⟩) _) (ownFrom_below (Nat.le_refl _) (by simp; omega)))
    ⟨⟨by simp, cell_alloc_l _ c0, cell_alloc_l _ c1.1, frozen_alloc_l _ c1.1 c1.2⟩, hB1⟩
    (fun x => { tmps := #[.agg #[v, .int .i64 a], .int .i64 want, .pointer (some ⟨w.heap.size, 0, none⟩), .pointer (some ⟨w.heap.size + 1, 0, none⟩), .pointer (some ⟨w.heap.size + 1 + 1, 0, none⟩), .int .i64 x, .agg #[v, .int .i64 a], .func (.func 46) #[] #[.pointer (some ⟨w.heap.size + 1 + 1 + 1, 0, none⟩)], .int .i64 x, undef, undef, undef], defers := [] }) ?assign ?body ?done ?stop
  case assign =>
    intro l x W K hK
    gi_wp2
    exact hK
  case body =>
    rintro l pre x W ⟨⟨hp, hcw, hcr, hfr⟩, hB⟩ _
    gi_wp2
    · rename_i hx
      obtain rfl : x = want := eq_of_beq hx
      exact ⟨KeepsOthers.setCell _ _ _, ⟨rfl, List.mem_append.2 (.inr (by simp)), World.cell?_setCell_same' _ _ _ (by rw [hcr]; rfl)⟩, hB.setCell (p := ⟨w.heap.size + 1 + 1, 0, none⟩) (by simp; omega) _⟩
    · rename_i hx
      exact ⟨KeepsOthers.refl _, KeepsL.refl _ _, ⟨fun y hy => (List.mem_append.1 hy).elim (hp y) (fun e e' => by simp at e; subst e; subst e'; simp at hx), hcw, hcr, hfr⟩, hB⟩
  case done =>
    rintro D ys W hD rfl ⟨⟨hne, _, hcr, hfr⟩, hB⟩ hK
    gi_wp2
    have hK' := (KeepsOthers.setCell W ⟨w.heap.size + 1 + 1, 0, none⟩ (.bool false)).same D _ hK rfl
    refine ⟨by simp, .inl ⟨_, _, rfl, run_takeDeferred hK', ?_⟩⟩
    have hc5 := cell_kept (World.cell?_setCell_same' W ⟨w.heap.size + 1 + 1, 0, none⟩ (.bool false) (by rw [hcr]; rfl)) (grownBy_putObj' _ D (.deferred none)) (fun r e => by cases e; exact ⟨_, hK', rfl⟩)
    refine ⟨.bool false, ?_, by rw [decide_eq_false (fun h => hne want h rfl)], (hB.setCell (p := ⟨w.heap.size + 1 + 1, 0, none⟩) (by simp; omega) _).trans (belowK_b (w := w) (Nat.le_refl _) _ D _ _ (by simp at hD; omega) hK' rfl rfl)⟩
    simp [results, Try.results18, go_sem, hc5]
  case stop =>
    rintro D c pre W hD hpre ⟨⟨rfl, hin, hcr⟩, hB⟩ hK
    gi_wp2
    refine ⟨by simp, .inl ⟨_, _, rfl, run_takeDeferred hK, ?_⟩⟩
    have hc5 := cell_kept hcr (grownBy_putObj' _ D (.deferred none)) (fun r e => by cases e; exact ⟨_, hK, rfl⟩)
    refine ⟨.bool true, ?_, by rw [decide_eq_true (hpre.subset hin)], hB.trans (belowK_b (w := w) (Nat.le_refl _) W D _ _ (by simp at hD; omega) hK rfl rfl)⟩
    simp [results, Try.results18, go_sem, hc5]
theorem has_any {w : World} {v : Value} {a : Nat} {l : List Int} (want : Int) (hI : Ints w v l) (ha : a ≤ 1000) (hl : l.length ≤ 1000) :
    Calls Try.prog 18 #[.agg #[v, .int .i64 a], .int .i64 want] w fun e W' => e = .returned (.bool (decide (want ∈ chL a l))) ∧ Below w.heap.size w W' :=
  (callsIn_wide (n := 3)).1 (has_in Fence.wide 3 trivial trivial trivial rfl (Nat.le_refl _) want hI ha hl)
end Go.Proofs.Ytndicgfafdhieaa.Tm
