/- The walk of the law RsetSteps (printed by gen_law26.py). -/
import Derived.Test.YtkbohijlhhpfbaaGreatDoorVZr
namespace Go.Proofs.YtkbohijlhhpfbaaGreatDoor.Rs
open Go.RowKit Ru Ut Cw Ra Xp
def Pos (a : Int) (L : List Int) (k : Nat) (q : Int) : Prop := (k = 0 ∧ q = a - 1) ∨ ∃ j, ∃ hj : j < L.length, k = j + 1 ∧ q = L[j]
theorem Pos.next {a : Int} {L : List Int} {k : Nat} (hk : k < L.length) : Pos a L (k + 1) L[k] := .inr ⟨k, hk, rfl, rfl⟩
set_option maxHeartbeats 4000000 in
set_option maxRecDepth 100000 in
theorem lstep_no (w : World) (SV : Array Value) (n0 n1 : Int) (hsz : SV.size = 19)
  (FS : ∀ W, Below w.heap.size w W → Calls Tryz.prog 19 #[.agg SV] W fun e w' => e = .returned (.bool false) ∧ Below W.heap.size W w')
  (AW : ∀ W, Below w.heap.size w W → Calls Tryz.prog 20 #[] W fun e w' => e = .returned (.bool true) ∧ Below W.heap.size W w') : Calls Tryz.prog 8 #[.agg SV, .agg #[.int .u64 n0, .int .u64 n1]] w fun e w' => e = .returned (.bool true) ∧ Below w.heap.size w w' := by
 replace FS := Lib.hid FS
 replace AW := Lib.hid AW
 have hS := Lib.hid (show (Tryz.prog.info? 43).map (·.size) = some SV.size by rw [hsz]; exact sizeRSet)
 clear hsz
 have RS := Lib.hid (fun W (hB : Below (w.alloc (.cells SV 43)).heap.size (w.alloc (.cells SV 43)) W) => box_range hB)
 go_enter Tryz.func8, Tryz.ntmps8
 go_wp2_with (first
  | (refine wpList_load_arr rfl 43 _ rfl w.heap.size 0 rfl SV _ (RS.out _ (by (repeat' (first|assumption|exact Below.refl _ _|apply Below.next_alloc|apply Below.drew|(apply Below.next;rotate_left;assumption))))) Tryz.underlying43 rfl hS.out ?_)
  | (go_at_call 19; (with_reducible refine (FS.out _ (by (repeat' (first|assumption|exact Below.refl _ _|apply Below.next_alloc|apply Below.drew|(apply Below.next;rotate_left;assumption))))).mono ?_); rintro e w1 ⟨rfl, hB1⟩)
  | (go_at_call 20; (with_reducible refine (AW.out _ (Below.next (by (repeat' (first|assumption|exact Below.refl _ _|apply Below.next_alloc|apply Below.drew|(apply Below.next;rotate_left;assumption)))) hB1)).mono ?_); rintro e w2 ⟨rfl, hB2⟩))
 go_ret
 exact ⟨rfl, Below.next (Below.next (by (repeat' (first|assumption|exact Below.refl _ _|apply Below.next_alloc|apply Below.drew|(apply Below.next;rotate_left;assumption)))) hB1) hB2⟩
set_option maxHeartbeats 8000000 in
set_option maxRecDepth 100000 in
theorem lstep_err (w : World) (SV : Array Value) (hsz : SV.size = 19) (X : Array Value → World → Prop) (hX : ∀ SX W, X SX W → SX.size = 19 ∧ SX.all (·.oneCell') = true) (XL : ∀ SX W W2, X SX W → Below W.heap.size W W2 → X SX W2)
  (FS : ∀ W, Below w.heap.size w W → Calls Tryz.prog 19 #[.agg SV] W fun e w' => e = .returned (.bool true) ∧ Below W.heap.size W w')
  (FO : ∀ W, Below w.heap.size w W → Calls Tryz.prog 21 #[.agg SV] W fun e w' => ∃ SX, e = .returned (.agg SX) ∧ X SX w' ∧ Below W.heap.size W w')
  (AW : ∀ W, Below w.heap.size w W → Calls Tryz.prog 20 #[] W fun e w' => e = .returned (.bool true) ∧ Below W.heap.size W w')
  (u e : Int) (L : List Int) (n0 n1 a r1 b : Int) (a0 : 0 ≤ a) (a1 : a ≤ 315537897599) (hr0 : 0 ≤ r1) (hr1 : a + r1 ≤ 315537897600) (hb : a + r1 = b)
  (x0 : 0 ≤ n0) (x1 : n0 ≤ 18446744073709551615) (z0 : 0 ≤ n1) (z1 : n1 ≤ 18446744073709551615) (hA : n0 % 315537897600 = a) (hR : n1 % (315537897601 - a) = r1)
  (FW : ∀ SX W, X SX W → Below w.heap.size w W → Calls Tryz.prog 22 #[.agg SX, .int .i64 a, .int .i64 b, .int .i64 4000] W fun r w' => ∃ v, r = .returned (.tuple #[v, .int .i64 u, .int .i64 e]) ∧ OwnI w' W.heap.size v L ∧ Below W.heap.size W w')
  (he : (e != 0) = true) : Calls Tryz.prog 8 #[.agg SV, .agg #[.int .u64 n0, .int .u64 n1]] w fun e w' => e = .returned (.bool true) ∧ Below w.heap.size w w' := by
 replace FS := Lib.hid FS
 replace FO := Lib.hid FO
 replace AW := Lib.hid AW
 replace hX := Lib.hid hX
 replace XL := Lib.hid XL
 replace FW := Lib.hid FW
 have hS := Lib.hid (show (Tryz.prog.info? 43).map (·.size) = some SV.size by rw [hsz]; exact sizeRSet)
 go_enter Tryz.func8, Tryz.ntmps8
 go_upto_region 1 with fail
 have RS := Lib.hid (fun W (hB : Below ((w.alloc (.cells SV 43)).alloc (.cells #[.int .u64 n0, .int .u64 n1] 72)).heap.size ((w.alloc (.cells SV 43)).alloc (.cells #[.int .u64 n0, .int .u64 n1] 72)) W) => (show W.rangeAt w.heap.size 0 SV.toList from box_range2 hB))
 have RN := fun W (hB : Below ((w.alloc (.cells SV 43)).alloc (.cells #[.int .u64 n0, .int .u64 n1] 72)).heap.size ((w.alloc (.cells SV 43)).alloc (.cells #[.int .u64 n0, .int .u64 n1] 72)) W) i v (h : #[.int .u64 n0, .int .u64 n1][i]? = some v) => (show W.cell? ⟨w.heap.size + 1, i, none⟩ = some v from box_second hB h)
 have B0 := Lib.hid (show Below w.heap.size w ((w.alloc (.cells SV 43)).alloc (.cells #[.int .u64 n0, .int .u64 n1] 72)) from by (repeat' (first|assumption|exact Below.refl _ _|apply Below.next_alloc|apply Below.drew|(apply Below.next;rotate_left;assumption))))
 have Z0 := Lib.hid (show w.heap.size < ((w.alloc (.cells SV 43)).alloc (.cells #[.int .u64 n0, .int .u64 n1] 72)).heap.size by simp; omega)
 generalize ((w.alloc (.cells SV 43)).alloc (.cells #[.int .u64 n0, .int .u64 n1] 72)) = W0 at *
 replace RN := Lib.hid RN
 go_upto_region 4 with (first
  | (refine wpList_load_arr rfl 43 _ rfl w.heap.size 0 rfl SV _ (RS.out _ (by (repeat' (first|assumption|exact Below.refl _ _|apply Below.next_alloc|apply Below.drew|(apply Below.next;rotate_left;assumption))))) Tryz.underlying43 rfl hS.out ?_)
  | (go_at_call 19; (with_reducible refine (FS.out _ (Below.next B0.out (by (repeat' (first|assumption|exact Below.refl _ _|apply Below.next_alloc|apply Below.drew|(apply Below.next;rotate_left;assumption)))))).mono ?_); rintro e w1 ⟨rfl, hB1⟩)
  | (go_at_call 21; (with_reducible refine (FO.out _ (Below.next B0.out (by (repeat' (first|assumption|exact Below.refl _ _|apply Below.next_alloc|apply Below.drew|(apply Below.next;rotate_left;assumption)))))).mono ?_); rintro e w2 ⟨SX, rfl, hSX0, hB2⟩; obtain ⟨hs19, hone⟩ := hX.out _ _ hSX0; have hSX := Lib.hid (show (Tryz.prog.info? 48).map (·.size) = some SX.size by rw [hs19]; exact sizeSet))
  | (refine wpList_store_new rfl 48 _ _ rfl SX w2.heap.size rfl rfl rfl hSX.out (by rw [hs19]; rfl) hone ?_))
 have RX := fun W (hB : Below (w2.alloc (.cells SX 48)).heap.size (w2.alloc (.cells SX 48)) W) => box_range hB
 have LX := fun W (hB : Below (w2.alloc (.cells SX 48)).heap.size (w2.alloc (.cells SX 48)) W) => XL.out _ _ W hSX0 (Below.next_allocs' hB)
 have CX := fun W (hB : Below (w2.alloc (.cells SX 48)).heap.size (w2.alloc (.cells SX 48)) W) i v (h : SX[i]? = some v) => (show W.cell? ⟨w2.heap.size, i, none⟩ = some v from box_cell hB h)
 have BW1 : Below W0.heap.size W0 (w2.alloc (.cells SX 48)) := by (repeat' (first|assumption|exact Below.refl _ _|apply Below.next_alloc|apply Below.drew|(apply Below.next;rotate_left;assumption)))
 generalize w2.alloc (.cells SX 48) = W1 at *
 replace RX := Lib.hid RX
 replace LX := Lib.hid LX
 replace CX := Lib.hid CX
 have B1 := Lib.hid (Below.next B0.out BW1)
 replace RS := Lib.hid (fun W (hB : Below W1.heap.size W1 W) => RS.out W (Below.next BW1 hB))
 have g0 := RN.out W1 BW1 0 _ rfl
 have g1 := RN.out W1 BW1 1 _ rfl
 clear RS BW1 hB2 hB1 hone hs19 XL hX FS FO CX
 go_wp2_with (first
  | (refine wpList_load_arr rfl 48 _ rfl w2.heap.size 0 rfl SX _ (RX.out _ (by (repeat' (first|assumption|exact Below.refl _ _|apply Below.next_alloc|apply Below.drew|(apply Below.next;rotate_left;assumption))))) Tryz.underlying48 rfl hSX.out ?_)
  | (go_at_call 22; (with_reducible refine (FW.out _ _ (LX.out _ (by (repeat' (first|assumption|exact Below.refl _ _|apply Below.next_alloc|apply Below.drew|(apply Below.next;rotate_left;assumption))))) (Below.next B1.out (by (repeat' (first|assumption|exact Below.refl _ _|apply Below.next_alloc|apply Below.drew|(apply Below.next;rotate_left;assumption)))))).mono ?_); rintro e0 y1 ⟨v1, rfl, hO1, hC1⟩; obtain ⟨p1, c1, hv1⟩ := OwnI.slice hO1; subst hv1; replace hO1 := Lib.hid hO1)
  | (go_at_call 20; (with_reducible refine (AW.out _ (Below.next B1.out (by (repeat' (first|assumption|exact Below.refl _ _|apply Below.next_alloc|apply Below.drew|(apply Below.next;rotate_left;assumption)))))).mono ?_); rintro e z9 ⟨rfl, hCz⟩))
 go_ret
 exact ⟨rfl, Below.next B1.out (by (repeat' (first|assumption|exact Below.refl _ _|apply Below.next_alloc|apply Below.drew|(apply Below.next;rotate_left;assumption))))⟩
set_option maxHeartbeats 8000000 in
set_option maxRecDepth 100000 in
theorem lstep_long (w : World) (SV : Array Value) (hsz : SV.size = 19) (X : Array Value → World → Prop) (hX : ∀ SX W, X SX W → SX.size = 19 ∧ SX.all (·.oneCell') = true) (XL : ∀ SX W W2, X SX W → Below W.heap.size W W2 → X SX W2)
  (FS : ∀ W, Below w.heap.size w W → Calls Tryz.prog 19 #[.agg SV] W fun e w' => e = .returned (.bool true) ∧ Below W.heap.size W w')
  (FO : ∀ W, Below w.heap.size w W → Calls Tryz.prog 21 #[.agg SV] W fun e w' => ∃ SX, e = .returned (.agg SX) ∧ X SX w' ∧ Below W.heap.size W w')
  (AW : ∀ W, Below w.heap.size w W → Calls Tryz.prog 20 #[] W fun e w' => e = .returned (.bool true) ∧ Below W.heap.size W w')
  (u : Int) (L : List Int) (n0 n1 a r1 b : Int) (a0 : 0 ≤ a) (a1 : a ≤ 315537897599) (hr0 : 0 ≤ r1) (hr1 : a + r1 ≤ 315537897600) (hb : a + r1 = b)
  (x0 : 0 ≤ n0) (x1 : n0 ≤ 18446744073709551615) (z0 : 0 ≤ n1) (z1 : n1 ≤ 18446744073709551615) (hA : n0 % 315537897600 = a) (hR : n1 % (315537897601 - a) = r1)
  (FW : ∀ SX W, X SX W → Below w.heap.size w W → Calls Tryz.prog 22 #[.agg SX, .int .i64 a, .int .i64 b, .int .i64 4000] W fun r w' => ∃ v, r = .returned (.tuple #[v, .int .i64 u, .int .i64 0]) ∧ OwnI w' W.heap.size v L ∧ Below W.heap.size W w')
  (hlen : 40 < L.length) (hl2 : L.length ≤ 100000) : Calls Tryz.prog 8 #[.agg SV, .agg #[.int .u64 n0, .int .u64 n1]] w fun e w' => e = .returned (.bool true) ∧ Below w.heap.size w w' := by
 replace FS := Lib.hid FS
 replace FO := Lib.hid FO
 replace AW := Lib.hid AW
 replace hX := Lib.hid hX
 replace XL := Lib.hid XL
 replace FW := Lib.hid FW
 have hS := Lib.hid (show (Tryz.prog.info? 43).map (·.size) = some SV.size by rw [hsz]; exact sizeRSet)
 go_enter Tryz.func8, Tryz.ntmps8
 go_upto_region 1 with fail
 have RS := Lib.hid (fun W (hB : Below ((w.alloc (.cells SV 43)).alloc (.cells #[.int .u64 n0, .int .u64 n1] 72)).heap.size ((w.alloc (.cells SV 43)).alloc (.cells #[.int .u64 n0, .int .u64 n1] 72)) W) => (show W.rangeAt w.heap.size 0 SV.toList from box_range2 hB))
 have RN := fun W (hB : Below ((w.alloc (.cells SV 43)).alloc (.cells #[.int .u64 n0, .int .u64 n1] 72)).heap.size ((w.alloc (.cells SV 43)).alloc (.cells #[.int .u64 n0, .int .u64 n1] 72)) W) i v (h : #[.int .u64 n0, .int .u64 n1][i]? = some v) => (show W.cell? ⟨w.heap.size + 1, i, none⟩ = some v from box_second hB h)
 have B0 := Lib.hid (show Below w.heap.size w ((w.alloc (.cells SV 43)).alloc (.cells #[.int .u64 n0, .int .u64 n1] 72)) from by (repeat' (first|assumption|exact Below.refl _ _|apply Below.next_alloc|apply Below.drew|(apply Below.next;rotate_left;assumption))))
 have Z0 := Lib.hid (show w.heap.size < ((w.alloc (.cells SV 43)).alloc (.cells #[.int .u64 n0, .int .u64 n1] 72)).heap.size by simp; omega)
 generalize ((w.alloc (.cells SV 43)).alloc (.cells #[.int .u64 n0, .int .u64 n1] 72)) = W0 at *
 replace RN := Lib.hid RN
 go_upto_region 4 with (first
  | (refine wpList_load_arr rfl 43 _ rfl w.heap.size 0 rfl SV _ (RS.out _ (by (repeat' (first|assumption|exact Below.refl _ _|apply Below.next_alloc|apply Below.drew|(apply Below.next;rotate_left;assumption))))) Tryz.underlying43 rfl hS.out ?_)
  | (go_at_call 19; (with_reducible refine (FS.out _ (Below.next B0.out (by (repeat' (first|assumption|exact Below.refl _ _|apply Below.next_alloc|apply Below.drew|(apply Below.next;rotate_left;assumption)))))).mono ?_); rintro e w1 ⟨rfl, hB1⟩)
  | (go_at_call 21; (with_reducible refine (FO.out _ (Below.next B0.out (by (repeat' (first|assumption|exact Below.refl _ _|apply Below.next_alloc|apply Below.drew|(apply Below.next;rotate_left;assumption)))))).mono ?_); rintro e w2 ⟨SX, rfl, hSX0, hB2⟩; obtain ⟨hs19, hone⟩ := hX.out _ _ hSX0; have hSX := Lib.hid (show (Tryz.prog.info? 48).map (·.size) = some SX.size by rw [hs19]; exact sizeSet))
  | (refine wpList_store_new rfl 48 _ _ rfl SX w2.heap.size rfl rfl rfl hSX.out (by rw [hs19]; rfl) hone ?_))
 have RX := fun W (hB : Below (w2.alloc (.cells SX 48)).heap.size (w2.alloc (.cells SX 48)) W) => box_range hB
 have LX := fun W (hB : Below (w2.alloc (.cells SX 48)).heap.size (w2.alloc (.cells SX 48)) W) => XL.out _ _ W hSX0 (Below.next_allocs' hB)
 have CX := fun W (hB : Below (w2.alloc (.cells SX 48)).heap.size (w2.alloc (.cells SX 48)) W) i v (h : SX[i]? = some v) => (show W.cell? ⟨w2.heap.size, i, none⟩ = some v from box_cell hB h)
 have BW1 : Below W0.heap.size W0 (w2.alloc (.cells SX 48)) := by (repeat' (first|assumption|exact Below.refl _ _|apply Below.next_alloc|apply Below.drew|(apply Below.next;rotate_left;assumption)))
 generalize w2.alloc (.cells SX 48) = W1 at *
 replace RX := Lib.hid RX
 replace LX := Lib.hid LX
 replace CX := Lib.hid CX
 have B1 := Lib.hid (Below.next B0.out BW1)
 replace RS := Lib.hid (fun W (hB : Below W1.heap.size W1 W) => RS.out W (Below.next BW1 hB))
 have g0 := RN.out W1 BW1 0 _ rfl
 have g1 := RN.out W1 BW1 1 _ rfl
 clear RS BW1 hB2 hB1 hone hs19 XL hX FS FO CX
 go_wp2_with (first
  | (refine wpList_load_arr rfl 48 _ rfl w2.heap.size 0 rfl SX _ (RX.out _ (by (repeat' (first|assumption|exact Below.refl _ _|apply Below.next_alloc|apply Below.drew|(apply Below.next;rotate_left;assumption))))) Tryz.underlying48 rfl hSX.out ?_)
  | (go_at_call 22; (with_reducible refine (FW.out _ _ (LX.out _ (by (repeat' (first|assumption|exact Below.refl _ _|apply Below.next_alloc|apply Below.drew|(apply Below.next;rotate_left;assumption))))) (Below.next B1.out (by (repeat' (first|assumption|exact Below.refl _ _|apply Below.next_alloc|apply Below.drew|(apply Below.next;rotate_left;assumption)))))).mono ?_); rintro e0 y1 ⟨v1, rfl, hO1, hC1⟩; obtain ⟨p1, c1, hv1⟩ := OwnI.slice hO1; subst hv1; replace hO1 := Lib.hid hO1)
  | (go_at_call 20; (with_reducible refine (AW.out _ (Below.next B1.out (by (repeat' (first|assumption|exact Below.refl _ _|apply Below.next_alloc|apply Below.drew|(apply Below.next;rotate_left;assumption)))))).mono ?_); rintro e z9 ⟨rfl, hCz⟩))
 go_ret
 exact ⟨rfl, Below.next B1.out (by (repeat' (first|assumption|exact Below.refl _ _|apply Below.next_alloc|apply Below.drew|(apply Below.next;rotate_left;assumption))))⟩
set_option maxHeartbeats 8000000 in
set_option maxRecDepth 100000 in
theorem lstep_ok (w : World) (SV : Array Value) (hsz : SV.size = 19) (X : Array Value → World → Prop) (hX : ∀ SX W, X SX W → SX.size = 19 ∧ SX.all (·.oneCell') = true) (XL : ∀ SX W W2, X SX W → Below W.heap.size W W2 → X SX W2)
  (FS : ∀ W, Below w.heap.size w W → Calls Tryz.prog 19 #[.agg SV] W fun e w' => e = .returned (.bool true) ∧ Below W.heap.size W w')
  (FO : ∀ W, Below w.heap.size w W → Calls Tryz.prog 21 #[.agg SV] W fun e w' => ∃ SX, e = .returned (.agg SX) ∧ X SX w' ∧ Below W.heap.size W w')
  (AW : ∀ W, Below w.heap.size w W → Calls Tryz.prog 20 #[] W fun e w' => e = .returned (.bool true) ∧ Below W.heap.size W w')
  (u : Int) (L : List Int) (n0 n1 a r1 b : Int) (a0 : 0 ≤ a) (a1 : a ≤ 315537897599) (hr0 : 0 ≤ r1) (hr1 : a + r1 ≤ 315537897600) (hb : a + r1 = b)
  (x0 : 0 ≤ n0) (x1 : n0 ≤ 18446744073709551615) (z0 : 0 ≤ n1) (z1 : n1 ≤ 18446744073709551615) (hA : n0 % 315537897600 = a) (hR : n1 % (315537897601 - a) = r1)
  (FW : ∀ SX W, X SX W → Below w.heap.size w W → Calls Tryz.prog 22 #[.agg SX, .int .i64 a, .int .i64 b, .int .i64 4000] W fun r w' => ∃ v, r = .returned (.tuple #[v, .int .i64 u, .int .i64 0]) ∧ OwnI w' W.heap.size v L ∧ Below W.heap.size W w')
  (hlen : L.length ≤ 40) (nt : Int → Int) (ni : Int → Bool) (nf : Int → Int)
  (FN : ∀ q SX W, X SX W → Below w.heap.size w W → Calls Tryz.prog 28 #[.agg SX, .int .i64 q, .int .i64 1000] W fun r w' => r = .returned (.tuple #[.int .i64 (nt q), .bool (ni q), .int .i64 (nf q)]) ∧ Below W.heap.size W w')
  (HN : ∀ k q, Pos a L k q → (nf q = 13 ∨ nf q = 0) ∧ (nf q = 0 → (∀ h : k < L.length, ni q = true ∧ nt q = L[k]) ∧ (k = L.length → ni q = false ∨ b ≤ nt q))) : Calls Tryz.prog 8 #[.agg SV, .agg #[.int .u64 n0, .int .u64 n1]] w fun e w' => e = .returned (.bool true) ∧ Below w.heap.size w w' := by
 replace FS := Lib.hid FS
 replace FO := Lib.hid FO
 replace AW := Lib.hid AW
 replace hX := Lib.hid hX
 replace XL := Lib.hid XL
 replace FW := Lib.hid FW
 replace FN := Lib.hid FN
 replace HN := Lib.hid HN
 have hS := Lib.hid (show (Tryz.prog.info? 43).map (·.size) = some SV.size by rw [hsz]; exact sizeRSet)
 go_enter Tryz.func8, Tryz.ntmps8
 go_upto_region 1 with fail
 have RS := Lib.hid (fun W (hB : Below ((w.alloc (.cells SV 43)).alloc (.cells #[.int .u64 n0, .int .u64 n1] 72)).heap.size ((w.alloc (.cells SV 43)).alloc (.cells #[.int .u64 n0, .int .u64 n1] 72)) W) => (show W.rangeAt w.heap.size 0 SV.toList from box_range2 hB))
 have RN := fun W (hB : Below ((w.alloc (.cells SV 43)).alloc (.cells #[.int .u64 n0, .int .u64 n1] 72)).heap.size ((w.alloc (.cells SV 43)).alloc (.cells #[.int .u64 n0, .int .u64 n1] 72)) W) i v (h : #[.int .u64 n0, .int .u64 n1][i]? = some v) => (show W.cell? ⟨w.heap.size + 1, i, none⟩ = some v from box_second hB h)
 have B0 := Lib.hid (show Below w.heap.size w ((w.alloc (.cells SV 43)).alloc (.cells #[.int .u64 n0, .int .u64 n1] 72)) from by (repeat' (first|assumption|exact Below.refl _ _|apply Below.next_alloc|apply Below.drew|(apply Below.next;rotate_left;assumption))))
 have Z0 := Lib.hid (show w.heap.size < ((w.alloc (.cells SV 43)).alloc (.cells #[.int .u64 n0, .int .u64 n1] 72)).heap.size by simp; omega)
 generalize ((w.alloc (.cells SV 43)).alloc (.cells #[.int .u64 n0, .int .u64 n1] 72)) = W0 at *
 replace RN := Lib.hid RN
 go_upto_region 4 with (first
  | (refine wpList_load_arr rfl 43 _ rfl w.heap.size 0 rfl SV _ (RS.out _ (by (repeat' (first|assumption|exact Below.refl _ _|apply Below.next_alloc|apply Below.drew|(apply Below.next;rotate_left;assumption))))) Tryz.underlying43 rfl hS.out ?_)
  | (go_at_call 19; (with_reducible refine (FS.out _ (Below.next B0.out (by (repeat' (first|assumption|exact Below.refl _ _|apply Below.next_alloc|apply Below.drew|(apply Below.next;rotate_left;assumption)))))).mono ?_); rintro e w1 ⟨rfl, hB1⟩)
  | (go_at_call 21; (with_reducible refine (FO.out _ (Below.next B0.out (by (repeat' (first|assumption|exact Below.refl _ _|apply Below.next_alloc|apply Below.drew|(apply Below.next;rotate_left;assumption)))))).mono ?_); rintro e w2 ⟨SX, rfl, hSX0, hB2⟩; obtain ⟨hs19, hone⟩ := hX.out _ _ hSX0; have hSX := Lib.hid (show (Tryz.prog.info? 48).map (·.size) = some SX.size by rw [hs19]; exact sizeSet))
  | (refine wpList_store_new rfl 48 _ _ rfl SX w2.heap.size rfl rfl rfl hSX.out (by rw [hs19]; rfl) hone ?_))
 have RX := fun W (hB : Below (w2.alloc (.cells SX 48)).heap.size (w2.alloc (.cells SX 48)) W) => box_range hB
 have LX := fun W (hB : Below (w2.alloc (.cells SX 48)).heap.size (w2.alloc (.cells SX 48)) W) => XL.out _ _ W hSX0 (Below.next_allocs' hB)
 have CX := fun W (hB : Below (w2.alloc (.cells SX 48)).heap.size (w2.alloc (.cells SX 48)) W) i v (h : SX[i]? = some v) => (show W.cell? ⟨w2.heap.size, i, none⟩ = some v from box_cell hB h)
 have BW1 : Below W0.heap.size W0 (w2.alloc (.cells SX 48)) := by (repeat' (first|assumption|exact Below.refl _ _|apply Below.next_alloc|apply Below.drew|(apply Below.next;rotate_left;assumption)))
 generalize w2.alloc (.cells SX 48) = W1 at *
 replace RX := Lib.hid RX
 replace LX := Lib.hid LX
 replace CX := Lib.hid CX
 have B1 := Lib.hid (Below.next B0.out BW1)
 replace RS := Lib.hid (fun W (hB : Below W1.heap.size W1 W) => RS.out W (Below.next BW1 hB))
 have g0 := RN.out W1 BW1 0 _ rfl
 have g1 := RN.out W1 BW1 1 _ rfl
 clear RS BW1 hB2 hB1 hone hs19 XL hX FS FO CX
 go_wp2_with (first
  | (refine wpList_load_arr rfl 48 _ rfl w2.heap.size 0 rfl SX _ (RX.out _ (by (repeat' (first|assumption|exact Below.refl _ _|apply Below.next_alloc|apply Below.drew|(apply Below.next;rotate_left;assumption))))) Tryz.underlying48 rfl hSX.out ?_)
  | (go_at_call 22; (with_reducible refine (FW.out _ _ (LX.out _ (by (repeat' (first|assumption|exact Below.refl _ _|apply Below.next_alloc|apply Below.drew|(apply Below.next;rotate_left;assumption))))) (Below.next B1.out (by (repeat' (first|assumption|exact Below.refl _ _|apply Below.next_alloc|apply Below.drew|(apply Below.next;rotate_left;assumption)))))).mono ?_); rintro e0 y1 ⟨v1, rfl, hO1, hC1⟩; obtain ⟨p1, c1, hv1⟩ := OwnI.slice hO1; subst hv1; replace hO1 := Lib.hid hO1)
  | (go_at_call 20; (with_reducible refine (AW.out _ (Below.next B1.out (by (repeat' (first|assumption|exact Below.refl _ _|apply Below.next_alloc|apply Below.drew|(apply Below.next;rotate_left;assumption)))))).mono ?_); rintro e z9 ⟨rfl, hCz⟩))
 have hOL := hO1.out.ints
 have hAt := Lib.hid (fun W (hB : Below y1.heap.size y1 W) k (hk : k < L.length) => Xp.ints_at hOL rfl hB hk)
 have B11 := Lib.hid hC1
 clear hC1 hO1 hOL
 go_loopw [11, 12] (fun vq vi wr => ∃ (k : Nat) (q : Int), k ≤ L.length ∧ vi = .int .i64 k ∧ vq = .int .i64 q ∧ Hid (Pos a L k q) ∧ Hid (Below y1.heap.size y1 wr)) (fun vq vi _ => L.length + 1 - (intOf vi).toNat)
 case atStart => exact ⟨0, a - 1, by omega, rfl, rfl, Lib.hid (.inl ⟨rfl, rfl⟩), Lib.hid (Below.refl _ _)⟩
 case round =>
  obtain ⟨k, q, hk, rfl, rfl, hp, hB⟩ := hrel
  have hBB : Below W1.heap.size W1 wr := Below.next B11.out hB.out
  have hBX := LX.out wr hBB
  obtain ⟨h13, h0⟩ := HN.out k q hp.out
  have FNq := fun W (hW : X SX W) (hB : Below w.heap.size w W) => FN.out q SX W hW hB
  have hBw := Below.next B1.out hBB
  replace FNq := fun W (hX0 : X SX W) (hB : Below w.heap.size w W) => FNq W hX0 hB
  rcases h13 with h13 | h13
  ·rw [h13] at FNq
   replace FNq := Lib.hid (fun W hX0 => FNq W hX0)
   clear h0 h13
   go_wp2_with (first
    | (refine wpList_load_arr rfl 48 _ rfl w2.heap.size 0 rfl SX _ (RX.out _ hBB) Tryz.underlying48 rfl hSX.out ?_)
    | (go_at_call 28; (with_reducible refine (FNq.out _ hBX hBw).mono ?_); rintro e0 y2 ⟨rfl, hC2⟩; have hBN := Lib.hid (Below.next hBB hC2))
    | (go_at_call 20; (with_reducible refine (AW.out _ (Below.next B1.out hBN.out)).mono ?_); rintro e0 z9 ⟨rfl, hCz⟩))
   go_ret
   exact ⟨rfl, Below.next (Below.next B1.out hBN.out) hCz⟩
  ·obtain ⟨h1, h2⟩ := h0 h13
   rw [h13] at FNq
   clear h13
   by_cases hlt : k < L.length
   ·obtain ⟨h3, h4⟩ := h1 hlt
    rw [h3, h4] at FNq
    replace FNq := Lib.hid (fun W hX0 => FNq W hX0)
    have hpn := Lib.hid (Pos.next (a := a) hlt)
    clear h1 h2 h3 h4
    have hA1 := hAt.out
    have hAk := Lib.hid (fun W hB => hAt.out W hB k hlt)
    generalize L[k] = y at *
    go_wp2_with (first
     | (refine wpList_load_arr rfl 48 _ rfl w2.heap.size 0 rfl SX _ (RX.out _ hBB) Tryz.underlying48 rfl hSX.out ?_)
     | (go_at_call 28; (with_reducible refine (FNq.out _ hBX hBw).mono ?_); rintro e0 y2 ⟨rfl, hC2⟩; have hBN := Lib.hid (Below.next hB.out hC2); obtain ⟨bb, oo, hv1, hb1, hcell, hcap⟩ := hAk.out y2 hBN.out; subst hv1))
    go_roundw
    case rel => exact ⟨k + 1, y, by omega, by go_num, rfl, hpn, hBN⟩
    case measure => simp [intOf]; omega
   ·have hkl : k = L.length := by omega
    rcases h2 hkl with h3 | h3
    ·rw [h3] at FNq
     replace FNq := Lib.hid (fun W hX0 => FNq W hX0)
     clear h1 h2 h3
     subst hkl
     go_wp2_with (first
    | (refine wpList_load_arr rfl 48 _ rfl w2.heap.size 0 rfl SX _ (RX.out _ hBB) Tryz.underlying48 rfl hSX.out ?_)
    | (go_at_call 28; (with_reducible refine (FNq.out _ hBX hBw).mono ?_); rintro e0 y2 ⟨rfl, hC2⟩; have hBN := Lib.hid (Below.next hBB hC2))
    | (go_at_call 20; (with_reducible refine (AW.out _ (Below.next B1.out hBN.out)).mono ?_); rintro e0 z9 ⟨rfl, hCz⟩))
     go_ret
     exact ⟨rfl, Below.next (Below.next B1.out hBN.out) hCz⟩
    ·generalize nt q = tt at *
     generalize ni q = ii at *
     replace FNq := Lib.hid (fun W hX0 => FNq W hX0)
     clear h1 h2
     subst hkl
     cases ii
     all_goals
      go_wp2_with (first
    | (refine wpList_load_arr rfl 48 _ rfl w2.heap.size 0 rfl SX _ (RX.out _ hBB) Tryz.underlying48 rfl hSX.out ?_)
    | (go_at_call 28; (with_reducible refine (FNq.out _ hBX hBw).mono ?_); rintro e0 y2 ⟨rfl, hC2⟩; have hBN := Lib.hid (Below.next hBB hC2))
    | (go_at_call 20; (with_reducible refine (AW.out _ (Below.next B1.out hBN.out)).mono ?_); rintro e0 z9 ⟨rfl, hCz⟩))
      go_ret
      exact ⟨rfl, Below.next (Below.next B1.out hBN.out) hCz⟩
end Go.Proofs.YtkbohijlhhpfbaaGreatDoor.Rs
