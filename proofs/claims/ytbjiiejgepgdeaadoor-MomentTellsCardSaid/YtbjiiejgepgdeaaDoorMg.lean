/- The walk through moment's Parse. -/
import Derived.Test.YtbjiiejgepgdeaaDoorMf
import Derived.BigRegion
namespace Go.Proofs.YtbjiiejgepgdeaaDoor.Ma
open Go.RowKit Mo Ut Cw
/-- the struct at the head of block b is the zero value, and may be written -/
def Bx (b : Nat) (W : World) : Prop := b < W.heap.size ∧ W.cell? ⟨b, 0, none⟩ = some (.int .u8 0) ∧ W.cell? ⟨b, 1, none⟩ = some (.int .i64 0) ∧ W.frozen? ⟨b, 0, none⟩ = false ∧ W.frozen? ⟨b, 1, none⟩ = false
theorem Bx.later {b : Nat} {W W2 : World} (h : Bx b W) (hB : Below W.heap.size W W2) : Bx b W2 := by
  obtain ⟨h0, h1, h2, h3, h4⟩ := h
  exact ⟨Nat.lt_of_lt_of_le h0 hB.size, (hB.cell (p := ⟨b, 0, none⟩) h0).trans h1, (hB.cell (p := ⟨b, 1, none⟩) h0).trans h2, (hB.frozen (p := ⟨b, 0, none⟩) h0).trans h3, (hB.frozen (p := ⟨b, 1, none⟩) h0).trans h4⟩
theorem Bx.start (w : World) (t : TypeId) : Bx w.heap.size (w.alloc (.cells #[.int .u8 0, .int .i64 0] t)) :=
  ⟨by simp, World.cell?_alloc_mark w #[.int .u8 0, .int .i64 0] t (0, 0) 0, World.cell?_alloc_mark w #[.int .u8 0, .int .i64 0] t (0, 0) 1,
    frozen_of_row _ _ _ _ t (heap_alloc_new w _), frozen_of_row _ _ _ _ t (heap_alloc_new w _)⟩
theorem Bx.next {b : Nat} {W W2 : World} {o : Obj} (h : Bx b W) (hB : Below (W.alloc o).heap.size (W.alloc o) W2) : Bx b W2 :=
  (h.later ((Below.refl _ W).alloc (Nat.le_refl _) o)).later hB
set_option maxHeartbeats 1000000 in
set_option maxRecDepth 100000 in
theorem parseA (L : List UInt8) (hn : L.length ≤ 1000) (w : World) (hf : form L = none) : Calls Tryd.prog 8 #[.string (str L)] w fun e w' => e = .returned (.tuple #[val 0 0, .int .i64 4]) ∧ Below w.heap.size w w' := by
  have F := fun w => form_any (str L) (by rw [str_size]; omega) w
  rw [bts_str, show formV L = .tuple #[.int .u8 0, .string (str []), .string (str []), .bool false] by unfold formV; rw [hf]] at F
  have FH := Lib.hid F
  clear F hf
  go_enter Tryd.func8, Tryd.ntmps8
  go_wp2_with (first | (go_at_call 20; refine (FH.out _).mono ?_; rintro e w1 ⟨rfl, hB1⟩; obtain ⟨hlt, c0, c1, f0, f1⟩ := (Bx.start w _).later hB1))
  refine bodyPost_ret (v := .tuple #[val 0 0, .int .i64 4]) (by simp [results, Tryd.results8, go_sem, val, c0, c1]) rfl ?_
  exact ⟨rfl, (((Below.refl _ w).alloc (Nat.le_refl _) _).trans (hB1.mono (by simp))).setCell (Nat.le_refl _) _ |>.setCell (Nat.le_refl _) _⟩
theorem fcall (a : List UInt8) (p q r : Nat) (hp : p ≤ 4) (hq : q ≤ 4) (hr : r ≤ 4) (w1 : World) :
    Calls Tryd.prog 21 #[.string (str a), .slice (some ⟨w1.heap.size, 0, none⟩) 3 3] (w1.alloc (.cells #[.int .i64 (p : Nat), .int .i64 (q : Nat), .int .i64 (r : Nat)] 3))
      fun e w' => Got (w1.alloc (.cells #[.int .i64 (p : Nat), .int .i64 (q : Nat), .int .i64 (r : Nat)] 3)).heap.size (Mo.fields [p, q, r] a) e w' ∧ Below (w1.alloc (.cells #[.int .i64 (p : Nat), .int .i64 (q : Nat), .int .i64 (r : Nat)] 3)).heap.size (w1.alloc (.cells #[.int .i64 (p : Nat), .int .i64 (q : Nat), .int .i64 (r : Nat)] 3)) w' :=
  fields_any a [p, q, r] (by intro x hx; simp at hx; omega) (by simp) w1.heap.size 3 _ (by simp) (fun i h => by
    have hi : i = 0 ∨ i = 1 ∨ i = 2 := by simp at h; omega
    rcases hi with rfl | rfl | rfl
    · exact World.cell?_alloc_mark w1 _ _ (0, 0) 0
    · exact World.cell?_alloc_mark w1 _ _ (0, 0) 1
    · exact World.cell?_alloc_mark w1 _ _ (0, 0) 2)
/-- three numbers in a row -/
def Three (W : World) (e : Ending) (x y z : Int) (g cap : Nat) : Prop :=
  e = .returned (.tuple #[.slice (some ⟨g, 0, none⟩) 3 cap, .bool true]) ∧ g < W.heap.size ∧ W.cell? ⟨g, 0, none⟩ = some (.int .i64 x) ∧ W.cell? ⟨g, 1, none⟩ = some (.int .i64 y) ∧ W.cell? ⟨g, 2, none⟩ = some (.int .i64 z)
theorem Got.three {base : Nat} {x y z : Int} {e : Ending} {W : World} (h : Got base (some [x, y, z]) e W) : ∃ g cap, Three W e x y z g cap := by
  obtain ⟨v, rfl, hown⟩ := h
  obtain ⟨g, cap, rfl, hb, hlt, _, _, hc⟩ := ownsRow_pos hown (by simp)
  exact ⟨g, cap, rfl, hlt, hc 0 _ rfl, hc 1 _ rfl, hc 2 _ rfl⟩
theorem four22 (a : List UInt8) (r : Option (List Int)) (h : Mo.fields [4, 2, 2] a = r) (w1 : World) : Calls Tryd.prog 21 #[.string (str a), .slice (some ⟨w1.heap.size, 0, none⟩) 3 3] (w1.alloc (.cells #[.int .i64 4, .int .i64 2, .int .i64 2] 3))
    fun e w' => Got (w1.alloc (.cells #[.int .i64 4, .int .i64 2, .int .i64 2] 3)).heap.size r e w' ∧ Below (w1.alloc (.cells #[.int .i64 4, .int .i64 2, .int .i64 2] 3)).heap.size (w1.alloc (.cells #[.int .i64 4, .int .i64 2, .int .i64 2] 3)) w' := by
  subst h; exact fcall a 4 2 2 (by decide) (by decide) (by decide) w1
theorem two22 (a : List UInt8) (r : Option (List Int)) (h : Mo.fields [2, 2, 2] a = r) (w1 : World) : Calls Tryd.prog 21 #[.string (str a), .slice (some ⟨w1.heap.size, 0, none⟩) 3 3] (w1.alloc (.cells #[.int .i64 2, .int .i64 2, .int .i64 2] 3))
    fun e w' => Got (w1.alloc (.cells #[.int .i64 2, .int .i64 2, .int .i64 2] 3)).heap.size r e w' ∧ Below (w1.alloc (.cells #[.int .i64 2, .int .i64 2, .int .i64 2] 3)).heap.size (w1.alloc (.cells #[.int .i64 2, .int .i64 2, .int .i64 2] 3)) w' := by
  subst h; exact fcall a 2 2 2 (by decide) (by decide) (by decide) w1
theorem Below.next_allocs {a b c : World} {o : Obj} (h : Below a.heap.size a b) (k : Below (b.alloc o).heap.size (b.alloc o) c) : Below a.heap.size a c :=
  Below.next (Below.next_alloc h o) k
theorem head {w w1 : World} {o : Obj} (hB1 : Below (w.alloc o).heap.size (w.alloc o) w1) : Below w.heap.size w w1 := Below.next_allocs (Below.refl _ w) hB1
set_option maxHeartbeats 1000000 in
set_option maxRecDepth 100000 in
theorem parseB (L a b : List UInt8) (k : Int) (hn : L.length ≤ 1000) (w : World) (hf : form L = some (k, a, b)) (h : Mo.fields [4, 2, 2] a = none) : Calls Tryd.prog 8 #[.string (str L)] w fun e w' => e = .returned (.tuple #[val 0 0, .int .i64 4]) ∧ Below w.heap.size w w' := by
  have F := fun w => form_any (str L) (by rw [str_size]; omega) w
  rw [bts_str, show formV L = .tuple #[.int .u8 k, .string (str a), .string (str b), .bool true] by unfold formV; rw [hf]] at F
  have FH := Lib.hid F
  have GH := Lib.hid (four22 a _ h)
  clear F hf h
  go_enter Tryd.func8, Tryd.ntmps8
  go_wp2_with (first
    | (go_at_call 20; refine (FH.out _).mono ?_; rintro e w1 ⟨rfl, hB1⟩; have hx := (Bx.start w _).later hB1)
    | (go_at_call 21; refine (GH.out _).mono ?_; rintro e w2 ⟨⟨v, rfl⟩, hB2⟩; obtain ⟨hlt, c0, c1, f0, f1⟩ := hx.next hB2))
  refine bodyPost_ret (v := .tuple #[val 0 0, .int .i64 4]) (by simp [results, Tryd.results8, go_sem, val, c0, c1]) rfl ?_
  exact ⟨rfl, (Below.next_allocs (head hB1) hB2).setCell (Nat.le_refl _) _ |>.setCell (Nat.le_refl _) _⟩
set_option maxHeartbeats 1000000 in
set_option maxRecDepth 100000 in
theorem parseC (L a b : List UInt8) (k y m d : Int) (hn : L.length ≤ 1000) (w : World) (hf : form L = some (k, a, b)) (h : Mo.fields [4, 2, 2] a = some [y, m, d]) (h' : Mo.fields [2, 2, 2] b = none) : Calls Tryd.prog 8 #[.string (str L)] w fun e w' => e = .returned (.tuple #[val 0 0, .int .i64 4]) ∧ Below w.heap.size w w' := by
  have F := fun w => form_any (str L) (by rw [str_size]; omega) w
  rw [bts_str, show formV L = .tuple #[.int .u8 k, .string (str a), .string (str b), .bool true] by unfold formV; rw [hf]] at F
  have FH := Lib.hid F
  have GH := Lib.hid (four22 a _ h)
  have HH := Lib.hid (two22 b _ h')
  clear F hf h h'
  go_enter Tryd.func8, Tryd.ntmps8
  go_wp2_with (first
    | (go_at_call 20; refine (FH.out _).mono ?_; rintro e w1 ⟨rfl, hB1⟩; have hx := (Bx.start w _).later hB1)
    | (go_at_call 21; refine (GH.out _).mono ?_; rintro e w2 ⟨hG, hB2⟩; clear GH; obtain ⟨g, cap, rfl, hg, g0, g1, g2⟩ := hG.three; have hx2 := hx.next hB2)
    | (go_at_call 21; refine (HH.out _).mono ?_; rintro e w3 ⟨⟨v, rfl⟩, hB3⟩; clear HH; obtain ⟨hlt, c0, c1, f0, f1⟩ := hx2.next hB3))
  refine bodyPost_ret (v := .tuple #[val 0 0, .int .i64 4]) (by simp [results, Tryd.results8, go_sem, val, c0, c1]) rfl ?_
  exact ⟨rfl, (Below.next_allocs (Below.next_allocs (head hB1) hB2) hB3).setCell (Nat.le_refl _) _ |>.setCell (Nat.le_refl _) _⟩
end Go.Proofs.YtbjiiejgepgdeaaDoor.Ma
