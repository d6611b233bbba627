/- The walks of the laws RsetNext and RsetWindows (printed by gen_law26.py). -/
import Derived.Test.YtkbohijlhhpfbaaGreatDoorVZn
import Derived.Test.YtkbohijlhhpfbaaGreatDoorVZi
namespace Go.Proofs.YtkbohijlhhpfbaaGreatDoor.Rs
open Go.RowKit Ru Ut Cw Ra Xp
theorem box_range {w W : World} {C : Array Value} {t : TypeId} (hB : Below (w.alloc (.cells C t)).heap.size (w.alloc (.cells C t)) W) : W.rangeAt w.heap.size 0 C.toList := (Blk.mk hB).range
theorem box_cell {w W : World} {C : Array Value} {t : TypeId} {i : Nat} {v : Value} (hB : Below (w.alloc (.cells C t)).heap.size (w.alloc (.cells C t)) W) (h : C[i]? = some v) : W.cell? ⟨w.heap.size, i, none⟩ = some v := (Blk.mk hB).2 i v h
theorem box_range2 {w W : World} {C : Array Value} {t : TypeId} {o : Obj} (hB : Below ((w.alloc (.cells C t)).alloc o).heap.size ((w.alloc (.cells C t)).alloc o) W) : W.rangeAt w.heap.size 0 C.toList :=
 box_range (Below.next (Below.next_alloc (Below.refl _ _) o) hB)
theorem box_second {w W : World} {o : Obj} {C : Array Value} {t : TypeId} {i : Nat} {v : Value} (hB : Below ((w.alloc o).alloc (.cells C t)).heap.size ((w.alloc o).alloc (.cells C t)) W) (h : C[i]? = some v) : W.cell? ⟨w.heap.size + 1, i, none⟩ = some v := by
 have h2 := box_cell hB h
 rwa [World.size_alloc] at h2
set_option maxHeartbeats 4000000 in
set_option maxRecDepth 100000 in
theorem lnext_no (w : World) (SV : Array Value) (after bud : Int) (hsz : SV.size = 19)
  (FS : ∀ W, Below w.heap.size w W → Calls Tryz.prog 19 #[.agg SV] W fun e w' => e = .returned (.bool false) ∧ Below W.heap.size W w')
  (AW : ∀ W, Below w.heap.size w W → Calls Tryz.prog 20 #[] W fun e w' => e = .returned (.bool true) ∧ Below W.heap.size W w') : Calls Tryz.prog 5 #[.agg SV, .int .i64 after, .int .i64 bud] w fun e w' => e = .returned (.bool true) ∧ Below w.heap.size w w' := by
 replace FS := Lib.hid FS
 replace AW := Lib.hid AW
 have hS := Lib.hid (show (Tryz.prog.info? 43).map (·.size) = some SV.size by rw [hsz]; exact sizeRSet)
 clear hsz
 have RS := Lib.hid (fun W (hB : Below (w.alloc (.cells SV 43)).heap.size (w.alloc (.cells SV 43)) W) => box_range hB)
 go_enter Tryz.func5, Tryz.ntmps5
 go_wp2_with (first
  | (refine wpList_load_arr rfl 43 _ rfl w.heap.size 0 rfl SV _ (RS.out _ (by (repeat' (first|assumption|exact Below.refl _ _|apply Below.next_alloc|apply Below.drew|(apply Below.next;rotate_left;assumption))))) Tryz.underlying43 rfl hS.out ?_)
  | (go_at_call 19; (with_reducible refine (FS.out _ (by (repeat' (first|assumption|exact Below.refl _ _|apply Below.next_alloc|apply Below.drew|(apply Below.next;rotate_left;assumption))))).mono ?_); rintro e w1 ⟨rfl, hB1⟩)
  | (go_at_call 20; (with_reducible refine (AW.out _ (Below.next (by (repeat' (first|assumption|exact Below.refl _ _|apply Below.next_alloc|apply Below.drew|(apply Below.next;rotate_left;assumption)))) hB1)).mono ?_); rintro e w2 ⟨rfl, hB2⟩))
 go_ret
 exact ⟨rfl, Below.next (Below.next (by (repeat' (first|assumption|exact Below.refl _ _|apply Below.next_alloc|apply Below.drew|(apply Below.next;rotate_left;assumption)))) hB1) hB2⟩
set_option maxHeartbeats 4000000 in
set_option maxRecDepth 100000 in
theorem lnext_core (w : World) (SV : Array Value) (hsz : SV.size = 19) (X : Array Value → World → Prop) (hX : ∀ SX W, X SX W → SX.size = 19 ∧ SX.all (·.oneCell') = true) (XL : ∀ SX W W2, X SX W → Below W.heap.size W W2 → X SX W2)
  (FS : ∀ W, Below w.heap.size w W → Calls Tryz.prog 19 #[.agg SV] W fun e w' => e = .returned (.bool true) ∧ Below W.heap.size W w')
  (FO : ∀ W, Below w.heap.size w W → Calls Tryz.prog 21 #[.agg SV] W fun e w' => ∃ SX, e = .returned (.agg SX) ∧ X SX w' ∧ Below W.heap.size W w')
  (AW : ∀ W, Below w.heap.size w W → Calls Tryz.prog 20 #[] W fun e w' => e = .returned (.bool true) ∧ Below W.heap.size W w')
  (after bud n f : Int) (is : Bool)
  (FN : ∀ SX W, X SX W → Below w.heap.size w W → Calls Tryz.prog 28 #[.agg SX, .int .i64 after, .int .i64 bud] W fun e w' => e = .returned (.tuple #[.int .i64 n, .bool is, .int .i64 f]) ∧ Below W.heap.size W w')
  (FR : ∀ W, Below w.heap.size w W → Calls Tryz.prog 29 #[.agg SV, .int .i64 after, .int .i64 bud] W fun e w' => e = .returned (.tuple #[.int .i64 n, .bool is, .int .i64 f]) ∧ Below W.heap.size W w') :
  Calls Tryz.prog 5 #[.agg SV, .int .i64 after, .int .i64 bud] w fun e w' => e = .returned (.bool true) ∧ Below w.heap.size w w' := by
 replace FS := Lib.hid FS
 replace FO := Lib.hid FO
 replace AW := Lib.hid AW
 replace hX := Lib.hid hX
 replace XL := Lib.hid XL
 replace FN := Lib.hid FN
 replace FR := Lib.hid FR
 have hS := Lib.hid (show (Tryz.prog.info? 43).map (·.size) = some SV.size by rw [hsz]; exact sizeRSet)
 go_enter Tryz.func5, Tryz.ntmps5
 go_upto_region 1 with fail
 have RS := Lib.hid (fun W (hB : Below (w.alloc (.cells SV 43)).heap.size (w.alloc (.cells SV 43)) W) => (show W.rangeAt w.heap.size 0 SV.toList from box_range hB))
 have B0 := Lib.hid (show Below w.heap.size w (w.alloc (.cells SV 43)) from by (repeat' (first|assumption|exact Below.refl _ _|apply Below.next_alloc|apply Below.drew|(apply Below.next;rotate_left;assumption))))
 have Z0 := Lib.hid (show w.heap.size < (w.alloc (.cells SV 43)).heap.size by simp)
 generalize (w.alloc (.cells SV 43)) = W0 at *
 go_wp2_with (first
  | (refine wpList_load_arr rfl 43 _ rfl w.heap.size 0 rfl SV _ (RS.out _ (by (repeat' (first|assumption|exact Below.refl _ _|apply Below.next_alloc|apply Below.drew|(apply Below.next;rotate_left;assumption))))) Tryz.underlying43 rfl hS.out ?_)
  | (go_at_call 19; (with_reducible refine (FS.out _ (Below.next B0.out (by (repeat' (first|assumption|exact Below.refl _ _|apply Below.next_alloc|apply Below.drew|(apply Below.next;rotate_left;assumption)))))).mono ?_); rintro e w1 ⟨rfl, hB1⟩)
  | (go_at_call 21; (with_reducible refine (FO.out _ (Below.next B0.out (by (repeat' (first|assumption|exact Below.refl _ _|apply Below.next_alloc|apply Below.drew|(apply Below.next;rotate_left;assumption)))))).mono ?_); rintro e w2 ⟨SX, rfl, hSX0, hB2⟩; obtain ⟨hs19, hone⟩ := hX.out _ _ hSX0; have hSX := Lib.hid (show (Tryz.prog.info? 48).map (·.size) = some SX.size by rw [hs19]; exact sizeSet))
  | (go_at_call 28; (with_reducible refine (FN.out _ _ hSX0 (Below.next B0.out (by (repeat' (first|assumption|exact Below.refl _ _|apply Below.next_alloc|apply Below.drew|(apply Below.next;rotate_left;assumption)))))).mono ?_); rintro e w3 ⟨rfl, hB3⟩)
  | (go_at_call 29; (with_reducible refine (FR.out _ (Below.next B0.out (by (repeat' (first|assumption|exact Below.refl _ _|apply Below.next_alloc|apply Below.drew|(apply Below.next;rotate_left;assumption)))))).mono ?_); rintro e w4 ⟨rfl, hB4⟩)
  | (go_at_call 20; (with_reducible refine (AW.out _ (Below.next B0.out (by (repeat' (first|assumption|exact Below.refl _ _|apply Below.next_alloc|apply Below.drew|(apply Below.next;rotate_left;assumption)))))).mono ?_); rintro e z9 ⟨rfl, hCz⟩))
 go_ret
 exact ⟨rfl, Below.next B0.out (by (repeat' (first|assumption|exact Below.refl _ _|apply Below.next_alloc|apply Below.drew|(apply Below.next;rotate_left;assumption))))⟩
set_option maxHeartbeats 4000000 in
set_option maxRecDepth 100000 in
theorem lwin_no (w : World) (SV : Array Value) (x y z : Int) (hsz : SV.size = 19)
  (FS : ∀ W, Below w.heap.size w W → Calls Tryz.prog 19 #[.agg SV] W fun e w' => e = .returned (.bool false) ∧ Below W.heap.size W w')
  (AW : ∀ W, Below w.heap.size w W → Calls Tryz.prog 20 #[] W fun e w' => e = .returned (.bool true) ∧ Below W.heap.size W w') : Calls Tryz.prog 4 #[.agg SV, .agg #[.int .i64 x, .int .i64 y, .int .i64 z]] w fun e w' => e = .returned (.bool true) ∧ Below w.heap.size w w' := by
 replace FS := Lib.hid FS
 replace AW := Lib.hid AW
 have hS := Lib.hid (show (Tryz.prog.info? 43).map (·.size) = some SV.size by rw [hsz]; exact sizeRSet)
 clear hsz
 have RS := Lib.hid (fun W (hB : Below (w.alloc (.cells SV 43)).heap.size (w.alloc (.cells SV 43)) W) => box_range hB)
 go_enter Tryz.func4, Tryz.ntmps4
 go_wp2_with (first
  | (refine wpList_load_arr rfl 43 _ rfl w.heap.size 0 rfl SV _ (RS.out _ (by (repeat' (first|assumption|exact Below.refl _ _|apply Below.next_alloc|apply Below.drew|(apply Below.next;rotate_left;assumption))))) Tryz.underlying43 rfl hS.out ?_)
  | (go_at_call 19; (with_reducible refine (FS.out _ (by (repeat' (first|assumption|exact Below.refl _ _|apply Below.next_alloc|apply Below.drew|(apply Below.next;rotate_left;assumption))))).mono ?_); rintro e w1 ⟨rfl, hB1⟩)
  | (go_at_call 20; (with_reducible refine (AW.out _ (Below.next (by (repeat' (first|assumption|exact Below.refl _ _|apply Below.next_alloc|apply Below.drew|(apply Below.next;rotate_left;assumption)))) hB1)).mono ?_); rintro e w2 ⟨rfl, hB2⟩))
 go_ret
 exact ⟨rfl, Below.next (Below.next (by (repeat' (first|assumption|exact Below.refl _ _|apply Below.next_alloc|apply Below.drew|(apply Below.next;rotate_left;assumption)))) hB1) hB2⟩
set_option maxHeartbeats 8000000 in
set_option maxRecDepth 100000 in
theorem lwin_core (w : World) (SV : Array Value) (hsz : SV.size = 19) (X : Array Value → World → Prop) (hX : ∀ SX W, X SX W → SX.size = 19 ∧ SX.all (·.oneCell') = true) (XL : ∀ SX W W2, X SX W → Below W.heap.size W W2 → X SX W2)
  (FS : ∀ W, Below w.heap.size w W → Calls Tryz.prog 19 #[.agg SV] W fun e w' => e = .returned (.bool true) ∧ Below W.heap.size W w')
  (FO : ∀ W, Below w.heap.size w W → Calls Tryz.prog 21 #[.agg SV] W fun e w' => ∃ SX, e = .returned (.agg SX) ∧ X SX w' ∧ Below W.heap.size W w')
  (AW : ∀ W, Below w.heap.size w W → Calls Tryz.prog 20 #[] W fun e w' => e = .returned (.bool true) ∧ Below W.heap.size W w')
  (x y z u f g ck : Int) (is : Bool) (l : List Int)
  (FW : ∀ SX W, X SX W → Below w.heap.size w W → Calls Tryz.prog 22 #[.agg SX, .int .i64 x, .int .i64 y, .int .i64 z] W fun e w' => ∃ v, e = .returned (.tuple #[v, .int .i64 u, .int .i64 f]) ∧ Ints w' v l ∧ Below W.heap.size W w')
  (RW : ∀ W, Below w.heap.size w W → Calls Tryz.prog 23 #[.agg SV, .int .i64 x, .int .i64 y, .int .i64 z] W fun e w' => ∃ v, e = .returned (.tuple #[v, .int .i64 u, .int .i64 f]) ∧ Ints w' v l ∧ Below W.heap.size W w')
  (FH : ∀ SX W, X SX W → Below w.heap.size w W → Calls Tryz.prog 24 #[.agg SX, .int .i64 x, .int .i64 z] W fun e w' => e = .returned (.tuple #[.bool is, .int .i64 g]) ∧ Below W.heap.size W w')
  (RH : ∀ W, Below w.heap.size w W → Calls Tryz.prog 25 #[.agg SV, .int .i64 x, .int .i64 z] W fun e w' => e = .returned (.tuple #[.bool is, .int .i64 g]) ∧ Below W.heap.size W w')
  (FC : ∀ SX W, X SX W → Below w.heap.size w W → Calls Tryz.prog 26 #[.agg SX] W fun e w' => e = .returned (.int .i64 ck) ∧ Below W.heap.size W w')
  (RC : ∀ W, Below w.heap.size w W → Calls Tryz.prog 27 #[.agg SV] W fun e w' => e = .returned (.int .i64 ck) ∧ Below W.heap.size W w')
  (S1 : ∀ W v u, Ints W v l → Ints W u l → Calls Tryz.prog 14 #[v, u] W fun e w' => e = .returned (.bool true) ∧ Below W.heap.size W w') :
  Calls Tryz.prog 4 #[.agg SV, .agg #[.int .i64 x, .int .i64 y, .int .i64 z]] w fun e w' => e = .returned (.bool true) ∧ Below w.heap.size w w' := by
 replace FS := Lib.hid FS
 replace FO := Lib.hid FO
 replace AW := Lib.hid AW
 replace hX := Lib.hid hX
 replace XL := Lib.hid XL
 replace FW := Lib.hid FW
 replace RW := Lib.hid RW
 replace FH := Lib.hid FH
 replace RH := Lib.hid RH
 replace FC := Lib.hid FC
 replace RC := Lib.hid RC
 replace S1 := Lib.hid S1
 have hS := Lib.hid (show (Tryz.prog.info? 43).map (·.size) = some SV.size by rw [hsz]; exact sizeRSet)
 go_enter Tryz.func4, Tryz.ntmps4
 go_upto_region 1 with fail
 have RS := Lib.hid (fun W (hB : Below ((w.alloc (.cells SV 43)).alloc (.cells #[.int .i64 x, .int .i64 y, .int .i64 z] 44)).heap.size ((w.alloc (.cells SV 43)).alloc (.cells #[.int .i64 x, .int .i64 y, .int .i64 z] 44)) W) => (show W.rangeAt w.heap.size 0 SV.toList from box_range2 hB))
 have RN := fun W (hB : Below ((w.alloc (.cells SV 43)).alloc (.cells #[.int .i64 x, .int .i64 y, .int .i64 z] 44)).heap.size ((w.alloc (.cells SV 43)).alloc (.cells #[.int .i64 x, .int .i64 y, .int .i64 z] 44)) W) i v (h : #[.int .i64 x, .int .i64 y, .int .i64 z][i]? = some v) => (show W.cell? ⟨w.heap.size + 1, i, none⟩ = some v from box_second hB h)
 have B0 := Lib.hid (show Below w.heap.size w ((w.alloc (.cells SV 43)).alloc (.cells #[.int .i64 x, .int .i64 y, .int .i64 z] 44)) from by (repeat' (first|assumption|exact Below.refl _ _|apply Below.next_alloc|apply Below.drew|(apply Below.next;rotate_left;assumption))))
 have Z0 := Lib.hid (show w.heap.size < ((w.alloc (.cells SV 43)).alloc (.cells #[.int .i64 x, .int .i64 y, .int .i64 z] 44)).heap.size by simp; omega)
 generalize ((w.alloc (.cells SV 43)).alloc (.cells #[.int .i64 x, .int .i64 y, .int .i64 z] 44)) = W0 at *
 replace RN := Lib.hid RN
 go_upto_region 4 with (first
  | (refine wpList_load_arr rfl 43 _ rfl w.heap.size 0 rfl SV _ (RS.out _ (by (repeat' (first|assumption|exact Below.refl _ _|apply Below.next_alloc|apply Below.drew|(apply Below.next;rotate_left;assumption))))) Tryz.underlying43 rfl hS.out ?_)
  | (go_at_call 19; (with_reducible refine (FS.out _ (Below.next B0.out (by (repeat' (first|assumption|exact Below.refl _ _|apply Below.next_alloc|apply Below.drew|(apply Below.next;rotate_left;assumption)))))).mono ?_); rintro e w1 ⟨rfl, hB1⟩)
  | (go_at_call 21; (with_reducible refine (FO.out _ (Below.next B0.out (by (repeat' (first|assumption|exact Below.refl _ _|apply Below.next_alloc|apply Below.drew|(apply Below.next;rotate_left;assumption)))))).mono ?_); rintro e w2 ⟨SX, rfl, hSX0, hB2⟩; obtain ⟨hs19, hone⟩ := hX.out _ _ hSX0; have hSX := Lib.hid (show (Tryz.prog.info? 48).map (·.size) = some SX.size by rw [hs19]; exact sizeSet))
  | (refine wpList_store_new rfl 48 _ _ rfl SX w2.heap.size rfl rfl rfl hSX.out (by rw [hs19]; rfl) hone ?_))
 have RX := fun W (hB : Below (w2.alloc (.cells SX 48)).heap.size (w2.alloc (.cells SX 48)) W) => box_range hB
 have LX := fun W (hB : Below (w2.alloc (.cells SX 48)).heap.size (w2.alloc (.cells SX 48)) W) => XL.out _ _ W hSX0 (Below.next_allocs' hB)
 have CX := fun W (hB : Below (w2.alloc (.cells SX 48)).heap.size (w2.alloc (.cells SX 48)) W) i v (h : SX[i]? = some v) => (show W.cell? ⟨w2.heap.size, i, none⟩ = some v from box_cell hB h)
 have BW1 : Below W0.heap.size W0 (w2.alloc (.cells SX 48)) := by (repeat' (first|assumption|exact Below.refl _ _|apply Below.next_alloc|apply Below.drew|(apply Below.next;rotate_left;assumption)))
 generalize w2.alloc (.cells SX 48) = W1 at *
 replace RX := Lib.hid RX
 replace LX := Lib.hid LX
 replace CX := Lib.hid CX
 have B1 := Lib.hid (Below.next B0.out BW1)
 replace RS := Lib.hid (fun W (hB : Below W1.heap.size W1 W) => RS.out W (Below.next BW1 hB))
 have n0 := RN.out W1 BW1 0 _ rfl
 have n1 := RN.out W1 BW1 1 _ rfl
 have n2 := RN.out W1 BW1 2 _ rfl
 have RNN := Lib.hid (fun W (hB : Below W1.heap.size W1 W) => RN.out W (Below.next BW1 hB))
 clear RN BW1 hB2 hB1 hone hs19 hSX0 XL hX FS FO
 go_wp2_with (first
  | (refine wpList_load_arr rfl 48 _ rfl w2.heap.size 0 rfl SX _ (RX.out _ (by (repeat' (first|assumption|exact Below.refl _ _|apply Below.next_alloc|apply Below.drew|(apply Below.next;rotate_left;assumption))))) Tryz.underlying48 rfl hSX.out ?_)
  | (refine wpList_load_arr rfl 43 _ rfl w.heap.size 0 rfl SV _ (RS.out _ (by (repeat' (first|assumption|exact Below.refl _ _|apply Below.next_alloc|apply Below.drew|(apply Below.next;rotate_left;assumption))))) Tryz.underlying43 rfl hS.out ?_)
  | (go_at_call 22; (with_reducible refine (FW.out _ _ (LX.out _ (by (repeat' (first|assumption|exact Below.refl _ _|apply Below.next_alloc|apply Below.drew|(apply Below.next;rotate_left;assumption))))) (Below.next B1.out (by (repeat' (first|assumption|exact Below.refl _ _|apply Below.next_alloc|apply Below.drew|(apply Below.next;rotate_left;assumption)))))).mono ?_); rintro e y1 ⟨v1, rfl, hI1, hC1⟩; obtain ⟨p1, c1, hv1⟩ := Xp.ints_slice hI1; subst hv1; replace hI1 := Lib.hid hI1; have n0 := RNN.out y1 (by (repeat' (first|assumption|exact Below.refl _ _|apply Below.next_alloc|apply Below.drew|(apply Below.next;rotate_left;assumption)))) 0 _ rfl; have n1 := RNN.out y1 (by (repeat' (first|assumption|exact Below.refl _ _|apply Below.next_alloc|apply Below.drew|(apply Below.next;rotate_left;assumption)))) 1 _ rfl; have n2 := RNN.out y1 (by (repeat' (first|assumption|exact Below.refl _ _|apply Below.next_alloc|apply Below.drew|(apply Below.next;rotate_left;assumption)))) 2 _ rfl)
  | (go_at_call 23; (with_reducible refine (RW.out _ (Below.next B1.out (by (repeat' (first|assumption|exact Below.refl _ _|apply Below.next_alloc|apply Below.drew|(apply Below.next;rotate_left;assumption)))))).mono ?_); rintro e y2 ⟨v2, rfl, hI2, hC2⟩; obtain ⟨p2, c2, hv2⟩ := Xp.ints_slice hI2; subst hv2; replace hI2 := Lib.hid hI2; have n0 := RNN.out y2 (by (repeat' (first|assumption|exact Below.refl _ _|apply Below.next_alloc|apply Below.drew|(apply Below.next;rotate_left;assumption)))) 0 _ rfl; have n1 := RNN.out y2 (by (repeat' (first|assumption|exact Below.refl _ _|apply Below.next_alloc|apply Below.drew|(apply Below.next;rotate_left;assumption)))) 1 _ rfl; have n2 := RNN.out y2 (by (repeat' (first|assumption|exact Below.refl _ _|apply Below.next_alloc|apply Below.drew|(apply Below.next;rotate_left;assumption)))) 2 _ rfl)
  | (go_at_call 24; (with_reducible refine (FH.out _ _ (LX.out _ (by (repeat' (first|assumption|exact Below.refl _ _|apply Below.next_alloc|apply Below.drew|(apply Below.next;rotate_left;assumption))))) (Below.next B1.out (by (repeat' (first|assumption|exact Below.refl _ _|apply Below.next_alloc|apply Below.drew|(apply Below.next;rotate_left;assumption)))))).mono ?_); rintro e y3 ⟨rfl, hC3⟩; have n0 := RNN.out y3 (by (repeat' (first|assumption|exact Below.refl _ _|apply Below.next_alloc|apply Below.drew|(apply Below.next;rotate_left;assumption)))) 0 _ rfl; have n1 := RNN.out y3 (by (repeat' (first|assumption|exact Below.refl _ _|apply Below.next_alloc|apply Below.drew|(apply Below.next;rotate_left;assumption)))) 1 _ rfl; have n2 := RNN.out y3 (by (repeat' (first|assumption|exact Below.refl _ _|apply Below.next_alloc|apply Below.drew|(apply Below.next;rotate_left;assumption)))) 2 _ rfl)
  | (go_at_call 25; (with_reducible refine (RH.out _ (Below.next B1.out (by (repeat' (first|assumption|exact Below.refl _ _|apply Below.next_alloc|apply Below.drew|(apply Below.next;rotate_left;assumption)))))).mono ?_); rintro e y4 ⟨rfl, hC4⟩))
 have hSl := Lib.hid (show (Tryz.prog.info? 43).map (·.size) = some SV.toList.length by rw [Array.length_toList]; exact hS.out)
 have hSXl := Lib.hid (show (Tryz.prog.info? 48).map (·.size) = some SX.toList.length by rw [Array.length_toList]; exact hSX.out)
 refine wp_region_held_drew (S := fun W => Below W1.heap.size W1 W) (by kernel_rfl) (by (repeat' (first|assumption|exact Below.refl _ _|apply Below.next_alloc|apply Below.drew|(apply Below.next;rotate_left;assumption)))) (fun hH0 => ?_)
 refine wpAnyH_take (i := 0) (oi := _) (v := ?vq0) rfl (by kernel_rfl) (by kernel_rfl) (by kernel_rfl) (fun _ _ _ h => h) (Or.inl ⟨by rfl, ?hyq0⟩) hH0 ?_
 case hyq0 => (intro w hSw; go_simp; with_reducible rfl)
 simp only [Act.put, List.setIfInBounds_toArray, List.set_cons_zero, List.set_cons_succ, List.getElem_toArray, List.getElem_cons_zero]
 refine wpAnyH_take (i := 1) (oi := _) (v := ?vq1) rfl (by kernel_rfl) (by kernel_rfl) (by kernel_rfl) (fun _ _ _ h => h) (Or.inl ⟨by rfl, ?hyq1⟩) hH0 ?_
 case hyq1 => (intro w hSw; go_simp; with_reducible rfl)
 simp only [Act.put, List.setIfInBounds_toArray, List.set_cons_zero, List.set_cons_succ, List.getElem_toArray, List.getElem_cons_succ, List.getElem_cons_zero]
 refine wpAnyH_ready (rs := [2]) (by kernel_rfl) (by simp) ?_
 refine AllReadyH.cons (o := _) rfl (fun K hK => ?_) AllReadyH.nil
 go_simp
 (go_at_call 14; (with_reducible refine (S1.out _ _ _ (hI1.out.below (by (repeat' (first|assumption|exact Below.refl _ _|apply Below.next_alloc|apply Below.drew|(apply Below.next;rotate_left;assumption))))) (hI2.out.below (by (repeat' (first|assumption|exact Below.refl _ _|apply Below.next_alloc|apply Below.drew|(apply Below.next;rotate_left;assumption)))))).mono ?_); rintro e y5 ⟨rfl, hC5⟩)
 refine hK.out _ _ ?_ (fun hH1 => ?_)
 case _ => exact (by (repeat' (first|assumption|exact Below.refl _ _|apply Below.next_alloc|apply Below.drew|(apply Below.next;rotate_left;assumption))))
 clear hK K
 refine wpAnyH_take (i := 3) (oi := _) (v := ?vq3) rfl (by kernel_rfl) (by kernel_rfl) (by kernel_rfl) (fun _ _ _ h => h) (Or.inl ⟨by rfl, ?hyq3⟩) hH1 ?_
 case hyq3 => (intro w hSw; go_simp; with_reducible rfl)
 simp only [Act.put, List.setIfInBounds_toArray, List.set_cons_zero, List.set_cons_succ, List.getElem_toArray, List.getElem_cons_succ, List.getElem_cons_zero]
 refine wpAnyH_take (i := 4) (oi := _) (v := ?vq4) rfl (by kernel_rfl) (by kernel_rfl) (by kernel_rfl) (fun _ _ _ h => h) (Or.inl ⟨by rfl, ?hyq4⟩) hH1 ?_
 case hyq4 => (intro w hSw; go_simp; with_reducible rfl)
 simp only [Act.put, List.setIfInBounds_toArray, List.set_cons_zero, List.set_cons_succ, List.getElem_toArray, List.getElem_cons_succ, List.getElem_cons_zero]
 refine wpAnyH_take (i := 5) (oi := _) (v := ?vq5) rfl (by kernel_rfl) (by kernel_rfl) (by kernel_rfl) (fun _ _ _ h => h) (Or.inl ⟨by rfl, ?hyq5⟩) hH1 ?_
 case hyq5 => (intro w hSw; go_simp; with_reducible rfl)
 simp only [Act.put, List.setIfInBounds_toArray, List.set_cons_zero, List.set_cons_succ, List.getElem_toArray, List.getElem_cons_succ, List.getElem_cons_zero]
 refine wpAnyH_take (i := 6) (oi := _) (v := ?vq6) rfl (by kernel_rfl) (by kernel_rfl) (by kernel_rfl) (fun _ _ _ h => h) (Or.inl ⟨by rfl, ?hyq6⟩) hH1 ?_
 case hyq6 => (intro w hSw; go_simp; with_reducible rfl)
 simp only [Act.put, List.setIfInBounds_toArray, List.set_cons_zero, List.set_cons_succ, List.getElem_toArray, List.getElem_cons_succ, List.getElem_cons_zero]
 refine wpAnyH_take (i := 7) (oi := _) (v := ?vq7) rfl (by kernel_rfl) (by kernel_rfl) (by kernel_rfl) (fun _ _ _ h => h) (Or.inl ⟨by rfl, ?hyq7⟩) hH1 ?_
 case hyq7 => (intro w hSw; go_simp; with_reducible rfl)
 simp only [Act.put, List.setIfInBounds_toArray, List.set_cons_zero, List.set_cons_succ, List.getElem_toArray, List.getElem_cons_succ, List.getElem_cons_zero]
 refine wpAnyH_take (i := 8) (oi := _) (v := ?vq8) rfl (by kernel_rfl) (by kernel_rfl) (by kernel_rfl) (fun _ _ _ h => h) (Or.inl ⟨by rfl, ?hyq8⟩) hH1 ?_
 case hyq8 => (intro w hSw; go_simp; with_reducible rfl)
 simp only [Act.put, List.setIfInBounds_toArray, List.set_cons_zero, List.set_cons_succ, List.getElem_toArray, List.getElem_cons_succ, List.getElem_cons_zero]
 refine wpAnyH_take (i := 9) (oi := _) (v := ?vq9) rfl (by kernel_rfl) (by kernel_rfl) (by kernel_rfl) (fun _ _ _ h => h) (Or.inl ⟨by rfl, ?hyq9⟩) hH1 ?_
 case hyq9 => (intro w hSw; go_simp; with_reducible rfl)
 simp only [Act.put, List.setIfInBounds_toArray, List.set_cons_zero, List.set_cons_succ, List.getElem_toArray, List.getElem_cons_succ, List.getElem_cons_zero]
 refine wpAnyH_take (i := 10) (oi := _) (v := ?vq10) rfl (by kernel_rfl) (by kernel_rfl) (by kernel_rfl) (fun _ _ _ h => h) (Or.inl ⟨by rfl, ?hyq10⟩) hH1 ?_
 case hyq10 => (intro w hSw; go_simp; with_reducible rfl)
 simp only [Act.put, List.setIfInBounds_toArray, List.set_cons_zero, List.set_cons_succ, List.getElem_toArray, List.getElem_cons_succ, List.getElem_cons_zero]
 refine wpAnyH_take (i := 11) (oi := _) (v := ?vq11) rfl (by kernel_rfl) (by kernel_rfl) (by kernel_rfl) (fun _ _ _ h => h) (Or.inl ⟨by rfl, ?hyq11⟩) hH1 ?_
 case hyq11 => (intro w hSw; go_simp; with_reducible rfl)
 simp only [Act.put, List.setIfInBounds_toArray, List.set_cons_zero, List.set_cons_succ, List.getElem_toArray, List.getElem_cons_succ, List.getElem_cons_zero]
 refine wpAnyH_take (i := 12) (oi := _) (v := ?vq12) rfl (by kernel_rfl) (by kernel_rfl) (by kernel_rfl) (fun _ _ _ h => h) (Or.inl ⟨by rfl, ?hyq12⟩) hH1 ?_
 case hyq12 => (intro w hSw; go_simp; with_reducible rfl)
 simp only [Act.put, List.setIfInBounds_toArray, List.set_cons_zero, List.set_cons_succ, List.getElem_toArray, List.getElem_cons_succ, List.getElem_cons_zero]
 refine wpAnyH_take (i := 13) (oi := _) (v := ?vq13) rfl (by kernel_rfl) (by kernel_rfl) (by kernel_rfl) (fun _ _ _ h => h) (Or.inl ⟨by rfl, ?hyq13⟩) hH1 ?_
 case hyq13 => (intro w hSw; go_simp; with_reducible rfl)
 simp only [Act.put, List.setIfInBounds_toArray, List.set_cons_zero, List.set_cons_succ, List.getElem_toArray, List.getElem_cons_succ, List.getElem_cons_zero]
 refine wpAnyH_take (i := 14) (oi := _) (v := ?vq14) rfl (by kernel_rfl) (by kernel_rfl) (by kernel_rfl) (fun _ _ _ h => h) (Or.inl ⟨by rfl, ?hyq14⟩) hH1 ?_
 case hyq14 => (intro w hSw; go_simp; with_reducible rfl)
 simp only [Act.put, List.setIfInBounds_toArray, List.set_cons_zero, List.set_cons_succ, List.getElem_toArray, List.getElem_cons_succ, List.getElem_cons_zero]
 refine wpAnyH_take (i := 15) (oi := _) (v := ?vq15) rfl (by kernel_rfl) (by kernel_rfl) (by kernel_rfl) (fun _ _ _ h => h) (Or.inl ⟨by rfl, ?hyq15⟩) hH1 ?_
 case hyq15 => (intro w hSw; go_simp; with_reducible rfl)
 simp only [Act.put, List.setIfInBounds_toArray, List.set_cons_zero, List.set_cons_succ, List.getElem_toArray, List.getElem_cons_succ, List.getElem_cons_zero]
 refine wpAnyH_take (i := 16) (oi := _) (v := ?vq16) rfl (by kernel_rfl) (by kernel_rfl) (by kernel_rfl) (fun _ _ _ h => h) (Or.inl ⟨by rfl, ?hyq16⟩) hH1 ?_
 case hyq16 => (intro w hSw; go_simp; with_reducible rfl)
 simp only [Act.put, List.setIfInBounds_toArray, List.set_cons_zero, List.set_cons_succ, List.getElem_toArray, List.getElem_cons_succ, List.getElem_cons_zero]
 refine wpAnyH_take (i := 17) (oi := _) (v := ?vq17) rfl (by kernel_rfl) (by kernel_rfl) (by kernel_rfl) (fun _ _ _ h => h) (Or.inl ⟨by rfl, ?hyq17⟩) hH1 ?_
 case hyq17 => (intro w hSw; go_simp; with_reducible rfl)
 simp only [Act.put, List.setIfInBounds_toArray, List.set_cons_zero, List.set_cons_succ, List.getElem_toArray, List.getElem_cons_succ, List.getElem_cons_zero]
 refine wpAnyH_take (i := 18) (oi := _) (v := ?vq18) rfl (by kernel_rfl) (by kernel_rfl) (by kernel_rfl) (fun _ _ _ h => h) (Or.inl ⟨by rfl, ?hyq18⟩) hH1 ?_
 case hyq18 => (intro w hSw; go_simp; with_reducible rfl)
 simp only [Act.put, List.setIfInBounds_toArray, List.set_cons_zero, List.set_cons_succ, List.getElem_toArray, List.getElem_cons_succ, List.getElem_cons_zero]
 refine wpAnyH_take (i := 19) (oi := _) (v := ?vq19) rfl (by kernel_rfl) (by kernel_rfl) (by kernel_rfl) (fun _ _ _ h => h) (Or.inl ⟨by rfl, ?hyq19⟩) hH1 ?_
 case hyq19 => (intro w hSw; go_simp; with_reducible rfl)
 simp only [Act.put, List.setIfInBounds_toArray, List.set_cons_zero, List.set_cons_succ, List.getElem_toArray, List.getElem_cons_succ, List.getElem_cons_zero]
 refine wpAnyH_take (i := 20) (oi := _) (v := ?vq20) rfl (by kernel_rfl) (by kernel_rfl) (by kernel_rfl) (fun _ _ _ h => h) (Or.inl ⟨by rfl, ?hyq20⟩) hH1 ?_
 case hyq20 => (intro w hSw; go_simp; with_reducible rfl)
 simp only [Act.put, List.setIfInBounds_toArray, List.set_cons_zero, List.set_cons_succ, List.getElem_toArray, List.getElem_cons_succ, List.getElem_cons_zero]
 refine wpAnyH_take (i := 21) (oi := _) (v := ?vq21) rfl (by kernel_rfl) (by kernel_rfl) (by kernel_rfl) (fun _ _ _ h => h) (Or.inl ⟨by rfl, ?hyq21⟩) hH1 ?_
 case hyq21 => (intro w hSw; go_simp; with_reducible rfl)
 simp only [Act.put, List.setIfInBounds_toArray, List.set_cons_zero, List.set_cons_succ, List.getElem_toArray, List.getElem_cons_succ, List.getElem_cons_zero]
 refine wpAnyH_take (i := 22) (oi := _) (v := ?vq22) rfl (by kernel_rfl) (by kernel_rfl) (by kernel_rfl) (fun _ _ _ h => h) (Or.inl ⟨by rfl, ?hyq22⟩) hH1 ?_
 case hyq22 => (intro w hSw; go_simp; with_reducible rfl)
 simp only [Act.put, List.setIfInBounds_toArray, List.set_cons_zero, List.set_cons_succ, List.getElem_toArray, List.getElem_cons_succ, List.getElem_cons_zero]
 refine wpAnyH_take (i := 23) (oi := _) (v := ?vq23) rfl (by kernel_rfl) (by kernel_rfl) (by kernel_rfl) (fun _ _ _ h => h) (Or.inl ⟨by rfl, ?hyq23⟩) hH1 ?_
 case hyq23 => (intro w hSw; go_simp; with_reducible rfl)
 simp only [Act.put, List.setIfInBounds_toArray, List.set_cons_zero, List.set_cons_succ, List.getElem_toArray, List.getElem_cons_succ, List.getElem_cons_zero]
 refine wpAnyH_take (i := 24) (oi := _) (v := .agg (List.toArray SX.toList)) rfl (by kernel_rfl) (by kernel_rfl) (by kernel_rfl) (fun _ _ _ h => h) (yieldsIf_load_mid (by rfl) _ _ rfl w2.heap.size 0 rfl SX.toList _ (fun W hW => RX.out W hW) Tryz.underlying48 rfl hSXl.out) hH1 ?_
 simp only [Act.put, List.setIfInBounds_toArray, List.set_cons_zero, List.set_cons_succ, List.getElem_toArray, List.getElem_cons_succ, List.getElem_cons_zero, Array.toArray_toList]
 refine wpAnyH_take (i := 26) (oi := _) (v := .agg (List.toArray SV.toList)) rfl (by kernel_rfl) (by kernel_rfl) (by kernel_rfl) (fun _ _ _ h => h) (yieldsIf_load_mid (by rfl) _ _ rfl w.heap.size 0 rfl SV.toList _ (fun W hW => RS.out W hW) Tryz.underlying43 rfl hSl.out) hH1 ?_
 simp only [Act.put, List.setIfInBounds_toArray, List.set_cons_zero, List.set_cons_succ, List.getElem_toArray, List.getElem_cons_succ, List.getElem_cons_zero, Array.toArray_toList]
 refine wpAnyH_ready (rs := [25]) (by kernel_rfl) (by simp) ?_
 refine AllReadyH.cons (o := _) rfl (fun K hK => ?_) AllReadyH.nil
 go_simp
 (go_at_call 26; (with_reducible refine (FC.out _ _ (LX.out _ (by (repeat' (first|assumption|exact Below.refl _ _|apply Below.next_alloc|apply Below.drew|(apply Below.next;rotate_left;assumption))))) (Below.next B1.out (by (repeat' (first|assumption|exact Below.refl _ _|apply Below.next_alloc|apply Below.drew|(apply Below.next;rotate_left;assumption)))))).mono ?_); rintro e y6 ⟨rfl, hC6⟩)
 refine hK.out _ _ ?_ (fun hH2 => ?_)
 case _ => exact (by (repeat' (first|assumption|exact Below.refl _ _|apply Below.next_alloc|apply Below.drew|(apply Below.next;rotate_left;assumption))))
 clear hK K
 refine wpAnyH_ready (rs := [27]) (by kernel_rfl) (by simp) ?_
 refine AllReadyH.cons (o := _) rfl (fun K hK => ?_) AllReadyH.nil
 go_simp
 (go_at_call 27; (with_reducible refine (RC.out _ (Below.next B1.out (by (repeat' (first|assumption|exact Below.refl _ _|apply Below.next_alloc|apply Below.drew|(apply Below.next;rotate_left;assumption)))))).mono ?_); rintro e y7 ⟨rfl, hC7⟩)
 refine hK.out _ _ ?_ (fun hH3 => ?_)
 case _ => exact (by (repeat' (first|assumption|exact Below.refl _ _|apply Below.next_alloc|apply Below.drew|(apply Below.next;rotate_left;assumption))))
 clear hK K
 refine wpAnyH_take (i := 28) (oi := _) (v := ?vq28) rfl (by kernel_rfl) (by kernel_rfl) (by kernel_rfl) (fun _ _ _ h => h) (Or.inl ⟨by rfl, ?hyq28⟩) hH3 ?_
 case hyq28 => (intro w hSw; go_simp; with_reducible rfl)
 simp only [Act.put, List.setIfInBounds_toArray, List.set_cons_zero, List.set_cons_succ, List.getElem_toArray, List.getElem_cons_succ, List.getElem_cons_zero]
 refine wpAnyH_take (i := 29) (oi := _) (v := ?vq29) rfl (by kernel_rfl) (by kernel_rfl) (by kernel_rfl) (fun _ _ _ h => h) (Or.inl ⟨by rfl, ?hyq29⟩) hH3 ?_
 case hyq29 => (intro w hSw; go_simp; with_reducible rfl)
 simp only [Act.put, List.setIfInBounds_toArray, List.set_cons_zero, List.set_cons_succ, List.getElem_toArray, List.getElem_cons_succ, List.getElem_cons_zero]
 refine wpAnyH_take (i := 30) (oi := _) (v := ?vq30) rfl (by kernel_rfl) (by kernel_rfl) (by kernel_rfl) (fun _ _ _ h => h) (Or.inl ⟨by rfl, ?hyq30⟩) hH3 ?_
 case hyq30 => (intro w hSw; go_simp; with_reducible rfl)
 simp only [Act.put, List.setIfInBounds_toArray, List.set_cons_zero, List.set_cons_succ, List.getElem_toArray, List.getElem_cons_succ, List.getElem_cons_zero]
 refine wpAnyH_ready (rs := [31]) (by kernel_rfl) (by simp) ?_
 refine AllReadyH.cons (o := _) rfl (fun K hK => ?_) AllReadyH.nil
 go_simp
 (go_at_call 20; (with_reducible refine (AW.out _ (Below.next B1.out (by (repeat' (first|assumption|exact Below.refl _ _|apply Below.next_alloc|apply Below.drew|(apply Below.next;rotate_left;assumption)))))).mono ?_); rintro e y8 ⟨rfl, hC8⟩)
 refine hK.out _ _ ?_ (fun hH4 => ?_)
 case _ => exact (by (repeat' (first|assumption|exact Below.refl _ _|apply Below.next_alloc|apply Below.drew|(apply Below.next;rotate_left;assumption))))
 clear hK K
 refine wpAnyH_take (i := 32) (oi := _) (v := ?vq32) rfl (by kernel_rfl) (by kernel_rfl) (by kernel_rfl) (fun _ _ _ h => h) (Or.inl ⟨by rfl, ?hyq32⟩) hH4 ?_
 case hyq32 => (intro w hSw; go_simp; with_reducible rfl)
 simp only [Act.put, List.setIfInBounds_toArray, List.set_cons_zero, List.set_cons_succ, List.getElem_toArray, List.getElem_cons_succ, List.getElem_cons_zero]
 refine wpAnyH_take (i := 33) (oi := _) (v := ?vq33) rfl (by kernel_rfl) (by kernel_rfl) (by kernel_rfl) (fun _ _ _ h => h) (Or.inl ⟨by rfl, ?hyq33⟩) hH4 ?_
 case hyq33 => (intro w hSw; go_simp; with_reducible rfl)
 simp only [Act.put, List.setIfInBounds_toArray, List.set_cons_zero, List.set_cons_succ, List.getElem_toArray, List.getElem_cons_succ, List.getElem_cons_zero]
 refine wpAnyH_done (by kernel_rfl) ?_ _
 go_wp2
 go_ret
 exact ⟨rfl, Below.next B1.out (by (repeat' (first|assumption|exact Below.refl _ _|apply Below.next_alloc|apply Below.drew|(apply Below.next;rotate_left;assumption))))⟩
end Go.Proofs.YtkbohijlhhpfbaaGreatDoor.Rs
