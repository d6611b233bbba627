/- One choice: its list sorted, or the start's number, or all: the walk through timeset's of. -/
import Derived.Test.YtkbohijlhhpfbaaGreatDoorVTd
import Derived.Test.YtkbohijlhhpfbaaGreatDoorVTs
import Derived.Sort.OwnSortedInts
import Derived.Sort.Walk0
namespace Go.Proofs.YtkbohijlhhpfbaaGreatDoor.Tm
open Go.RowKit Ut Ra Go.Sort
theorem ownI_block {w : World} {B : Nat} {v : Value} {l : List Int} (h : OwnI w B v l) (h0 : 0 < l.length) :
  ∃ g cap cur, v = .slice (some ⟨g, 0, none⟩) l.length cap ∧ B ≤ g ∧ w.heap[g]? = some (.cells cur 3 (0, 0)) ∧ l.length ≤ cap ∧ cap ≤ maxLen ∧ cur.size = cap * 1 ∧ Holds (Value.int .i64) w g 0 l.toArray ∧ g < w.heap.size := by
 rcases h with ⟨_, ⟨_, hn⟩ | ⟨g, cap, cur, rfl, hb, hg, hc, hm, hs, ht⟩⟩
 ·omega
 ·exact ⟨g, cap, cur, rfl, hb, hg, hc, hm, hs, holds_of_blockI hg (by rw [Nat.mul_one] at ht; exact ht), (Array.getElem?_eq_some_iff.1 hg).1⟩
def sortI (l : List Int) : List Int := l.mergeSort fun x y => decide (x ≤ y)
theorem sortI_length (l : List Int) : (sortI l).length = l.length := by unfold sortI; exact List.length_mergeSort _
theorem sortI_any {w : World} {B : Nat} {v : Value} {l : List Int} (h : OwnI w B v l) (hB : B ≤ w.heap.size) (hn : l.length ≤ 1000) : Calls Tryz.prog 43 #[v] w fun e w' => e = .returned (.tuple #[]) ∧ OwnI w' B v (sortI l) ∧ Below B w w' := by
 by_cases h0 : 0 < l.length
 ·obtain ⟨g, cap, cur, rfl, hb, hg, hc, hm, hs, hH, hlt⟩ := ownI_block h h0
  refine (Tryz.slices_Sort_int g 0 cap l w hH hlt (by omega)).mono fun e w' ⟨he, n, os, hw⟩ => ?_
  subst hw
  have h := ownsRow_sortedI (n := n) (os := os) (ss := l) (ts := sortI l) (sortI_length l) hb hg hc hm hs
  refine ⟨he, ?_, (Below.refl B w).grown (grownBy_sortedI _) hB fun k hk => by cases hk; exact hb⟩
  unfold OwnI
  rw [sortI_length]
  exact h
 ·obtain rfl : l = [] := List.eq_nil_of_length_eq_zero (by omega)
  obtain ⟨a, c, rfl⟩ := h.slice
  refine (Tryz.slices_Sort_int_none a c w).mono fun e w' ⟨he, hw⟩ => ?_
  subst hw
  exact ⟨he, by simpa [sortI] using h, Below.refl _ _⟩
theorem cloneI_any {w : World} {v : Value} {l : List Int} (h : Ints w v l) (hn : l.length ≤ 1000) : Calls Tryz.prog 177 #[v] w (Gives w l) := by
 rcases h with ⟨rfl, a, c, rfl, ha⟩ | ⟨h0, b, o, c, rfl, hlt, hc, hcell⟩
 ·cases a with
  | none =>
   refine (Tryz.slices_Clone_int_nil 0 c w).mono fun e w' ⟨he, hw⟩ => ?_
   subst hw
   exact ⟨_, he, OwnI.nil _ _, Below.refl _ _⟩
  | some a => exact (Tryz.slices_Clone_int_zero a c w).mono fun e w' ⟨v', he, ho, _, hB⟩ => ⟨v', he, ho, hB⟩
 ·refine (Tryz.slices_Clone_int b o l.length c l w (Nat.le_refl _) (by omega) (fun j hj => ?_)).mono fun e w' ⟨v', he, ho, _, hB⟩ => ⟨v', he, ?_, hB⟩
  ·rw [List.getD_eq_getElem?_getD, List.getElem?_eq_getElem hj]; exact hcell j hj
  ·rw [List.take_length] at ho; exact ho
def chList (l : List Int) (told : Bool) (start : Int) : List Int := if 0 < l.length then sortI l else if told then [start] else []
def chAll (l : List Int) (told : Bool) (all : Nat) : Nat := if 0 < l.length then 0 else if told then 0 else all
theorem own_one (w : World) (x : Int) {B : Nat} (hB : B ≤ w.heap.size) : OwnI (w.alloc (.cells #[.int .i64 x] 3)) B (.slice (some ⟨w.heap.size, 0, none⟩) 1 1) [x] := World.ownsRow_lit w #[.int .i64 x] 1 hB (by unfold maxLen; omega) rfl
theorem two_cells (t : TypeId) {w W : World} {B : Nat} {a b : Value} (hB : B = w.heap.size + 1) (h : Below B (w.alloc (.cells #[a, b] t)) W) :
  W.cell? ⟨w.heap.size, 0, none⟩ = some a ∧ W.cell? ⟨w.heap.size, 1, none⟩ = some b ∧ ∀ i, W.frozen? ⟨w.heap.size, i, none⟩ = false := by
 have k : ∀ i v, (w.alloc (.cells #[a, b] t)).cell? ⟨w.heap.size, i, none⟩ = some v → W.cell? ⟨w.heap.size, i, none⟩ = some v := fun i v hv => (h.cell (p := ⟨w.heap.size, i, none⟩) (by simp; omega)).trans hv
 refine ⟨k _ _ (World.cell?_alloc_new w #[a, b] t 0), k _ _ (World.cell?_alloc_new w #[a, b] t 1), fun i => ?_⟩
 rw [h.frozen (p := ⟨w.heap.size, i, none⟩) (by simp; omega)]
 simp
set_option maxHeartbeats 4000000 in
theorem of_any {w : World} {v : Value} {l : List Int} (told : Bool) (start : Int) (all : Nat) (hl : Ints w v l) (hn : l.length ≤ 1000) :
  Calls Tryz.prog 155 #[v, .bool told, .int .i64 start, .int .i64 all] w fun e w' => ∃ cv, e = .returned (.agg #[cv, .int .i64 (chAll l told all)]) ∧ OwnI w' w.heap.size cv (chList l told start) ∧ Below w.heap.size w w' := by
 obtain ⟨av, cap, rfl⟩ : ∃ a c, v = .slice a l.length c := by
  rcases hl with ⟨rfl, a, c, rfl, _⟩ | ⟨_, b, o, c, rfl, _⟩
  ·exact ⟨a, c, rfl⟩
  ·exact ⟨_, c, rfl⟩
 by_cases h0 : 0 < (l.length : Int)
 ·have r1 : chList l told start = sortI l := by unfold chList; rw [if_pos (by omega)]
  have r2 : chAll l told all = 0 := by unfold chAll; rw [if_pos (by omega)]
  have R1 := Lib.hid r1
  have R2 := Lib.hid r2
  clear r1 r2
  have F := fun W (hB : Below w.heap.size w W) => cloneI_any (hl.below hB) hn
  have F := Lib.hid F
  have G := fun W B v (h : OwnI W B v l) (hB : B ≤ W.heap.size) => sortI_any h hB hn
  have G := Lib.hid G
  clear hl
  have hB1 := Lib.hid (Below.next_alloc (Below.refl _ w) (.cells #[.slice none 0 0, .int .i64 0] 154))
  go_enter Tryz.func155, Tryz.ntmps155
  go_wp2_with (first
   | (go_at_call 177; (with_reducible refine (F.out _ hB1.out).mono ?_); rintro e w1 ⟨u, rfl, ho, hB2⟩; obtain ⟨ua, uc, rfl⟩ := ho.slice; have ho := Lib.hid ho; have hz := Lib.hid hB2.size; have hk := Lib.hid hB2)
   | (go_at_call 43; (with_reducible refine (G.out _ _ _ ho.out hz.out).mono ?_); rintro e w2 ⟨rfl, ho2, hB3⟩; have hk2 := Lib.hid (hk.out.trans hB3); obtain ⟨c0, c1, cf⟩ := two_cells _ (by simp) hk2.out; have cf0 := cf 0; have cf1 := cf 1; clear cf))
  have e1 : ((w2.setCell ⟨w.heap.size, 0, none⟩ (.slice ua l.length uc)).setCell ⟨w.heap.size, 1, none⟩ (.int .i64 0)).cell? ⟨w.heap.size, 0, none⟩ = some (.slice ua l.length uc) := by
   rw [World.cell?_setCell_other _ _ _ _ (by simp)]
   exact World.cell?_setCell_same' _ _ _ (by rw [c0]; rfl)
  have e2 : ((w2.setCell ⟨w.heap.size, 0, none⟩ (.slice ua l.length uc)).setCell ⟨w.heap.size, 1, none⟩ (.int .i64 0)).cell? ⟨w.heap.size, 1, none⟩ = some (.int .i64 0) :=
   World.cell?_setCell_same' _ _ _ (by rw [World.cell?_setCell_other _ _ _ _ (by simp), c1]; rfl)
  refine bodyPost_ret (v := .agg #[.slice ua l.length uc, .int .i64 0]) (by simp [results, Tryz.results155, go_sem, e1, e2]) rfl ?_
  refine ⟨_, by rw [R2.out]; rfl, ?_, ((Below.next hB1.out (hk2.out.mono (by simp))).setCell (p := ⟨w.heap.size, 0, none⟩) (Nat.le_refl _) _).setCell (p := ⟨w.heap.size, 1, none⟩) (Nat.le_refl _) _⟩
  rw [R1.out]
  exact OwnI.base (ownsRow_setCell_below (ownsRow_setCell_below ho2 (by simp) _) (by simp) _) (by simp)
 ·have r1 : l = [] := List.eq_nil_of_length_eq_zero (by omega)
  subst r1
  clear h0
  cases told
  ·clear hl
   go_enter Tryz.func155, Tryz.ntmps155
   go_wp2
   refine bodyPost_ret (v := .agg #[.slice none 0 0, .int .i64 all]) (by simp [results, Tryz.results155, go_sem]) rfl ?_
   exact ⟨_, rfl, OwnI.nil _ _, by (repeat' (first|assumption|exact Below.refl _ _|apply Below.next_alloc|apply Below.drew|(apply Below.next;rotate_left;assumption)))⟩
  ·clear hl
   go_enter Tryz.func155, Tryz.ntmps155
   go_wp2
   refine bodyPost_ret (v := .agg #[.slice (some ⟨w.heap.size + 1, 0, none⟩) 1 1, .int .i64 0]) (by simp [results, Tryz.results155, go_sem]) rfl ?_
   refine ⟨_, rfl, ?_, by (repeat' (first|assumption|exact Below.refl _ _|apply Below.next_alloc|apply Below.drew|(apply Below.next;rotate_left;assumption)))⟩
   have := own_one (w.alloc (.cells #[.slice (some ⟨w.heap.size + 1, 0, none⟩) 1 1, .int .i64 0] 154)) start (B := w.heap.size) (by simp)
   rw [World.size_alloc] at this
   exact this
end Go.Proofs.YtkbohijlhhpfbaaGreatDoor.Tm
