/- The walk of the law RsetMember (printed by gen_law26.py). -/
import Derived.Test.YtkbohijlhhpfbaaGreatDoorVZr
namespace Go.Proofs.YtkbohijlhhpfbaaGreatDoor.Rs
open Go.RowKit Ru Ut Cw Ra Xp
set_option maxHeartbeats 4000000 in
set_option maxRecDepth 100000 in
theorem lmem_no (w : World) (SV : Array Value) (sec : Int) (hsz : SV.size = 19)
  (FS : ∀ W, Below w.heap.size w W → Calls Tryz.prog 19 #[.agg SV] W fun e w' => e = .returned (.bool false) ∧ Below W.heap.size W w')
  (AW : ∀ W, Below w.heap.size w W → Calls Tryz.prog 20 #[] W fun e w' => e = .returned (.bool true) ∧ Below W.heap.size W w') : Calls Tryz.prog 6 #[.agg SV, .int .u64 sec] w fun e w' => e = .returned (.bool true) ∧ Below w.heap.size w w' := by
 replace FS := Lib.hid FS
 replace AW := Lib.hid AW
 have hS := Lib.hid (show (Tryz.prog.info? 43).map (·.size) = some SV.size by rw [hsz]; exact sizeRSet)
 clear hsz
 have RS := Lib.hid (fun W (hB : Below (w.alloc (.cells SV 43)).heap.size (w.alloc (.cells SV 43)) W) => box_range hB)
 go_enter Tryz.func6, Tryz.ntmps6
 go_wp2_with (first
  | (refine wpList_load_arr rfl 43 _ rfl w.heap.size 0 rfl SV _ (RS.out _ (by (repeat' (first|assumption|exact Below.refl _ _|apply Below.next_alloc|apply Below.drew|(apply Below.next;rotate_left;assumption))))) Tryz.underlying43 rfl hS.out ?_)
  | (go_at_call 19; (with_reducible refine (FS.out _ (by (repeat' (first|assumption|exact Below.refl _ _|apply Below.next_alloc|apply Below.drew|(apply Below.next;rotate_left;assumption))))).mono ?_); rintro e w1 ⟨rfl, hB1⟩)
  | (go_at_call 20; (with_reducible refine (AW.out _ (Below.next (by (repeat' (first|assumption|exact Below.refl _ _|apply Below.next_alloc|apply Below.drew|(apply Below.next;rotate_left;assumption)))) hB1)).mono ?_); rintro e w2 ⟨rfl, hB2⟩))
 go_ret
 exact ⟨rfl, Below.next (Below.next (by (repeat' (first|assumption|exact Below.refl _ _|apply Below.next_alloc|apply Below.drew|(apply Below.next;rotate_left;assumption)))) hB1) hB2⟩
set_option maxHeartbeats 4000000 in
set_option maxRecDepth 100000 in
theorem lmem_err (w : World) (SV : Array Value) (hsz : SV.size = 19) (X : Array Value → World → Prop) (hX : ∀ SX W, X SX W → SX.size = 19 ∧ SX.all (·.oneCell') = true) (XL : ∀ SX W W2, X SX W → Below W.heap.size W W2 → X SX W2)
  (FS : ∀ W, Below w.heap.size w W → Calls Tryz.prog 19 #[.agg SV] W fun e w' => e = .returned (.bool true) ∧ Below W.heap.size W w')
  (FO : ∀ W, Below w.heap.size w W → Calls Tryz.prog 21 #[.agg SV] W fun e w' => ∃ SX, e = .returned (.agg SX) ∧ X SX w' ∧ Below W.heap.size W w')
  (AW : ∀ W, Below w.heap.size w W → Calls Tryz.prog 20 #[] W fun e w' => e = .returned (.bool true) ∧ Below W.heap.size W w')
  (sec T count e : Int) (hXc : ∀ SX W, X SX W → SX[4]? = some (.int .i64 count) ∧ ∃ ai ni ci ao no co, SX[17]? = some (.slice ai ni ci) ∧ SX[18]? = some (.slice ao no co)) (s0 : 0 ≤ sec) (s1 : sec ≤ 18446744073709551615) (hT : sec % 315537897600 = T)
  (FH : ∀ SX W, X SX W → Below w.heap.size w W → Calls Tryz.prog 24 #[.agg SX, .int .i64 T, .int .i64 4000] W fun r w' => r = .returned (.tuple #[.bool false, .int .i64 e]) ∧ Below W.heap.size W w')
  (he : (e != 0) = true) : Calls Tryz.prog 6 #[.agg SV, .int .u64 sec] w fun e w' => e = .returned (.bool true) ∧ Below w.heap.size w w' := by
 have t0 : 0 ≤ T ∧ T ≤ 315537897599 := by omega
 obtain ⟨t0, t1⟩ := t0
 replace FS := Lib.hid FS
 replace FO := Lib.hid FO
 replace AW := Lib.hid AW
 replace hX := Lib.hid hX
 replace XL := Lib.hid XL
 replace FH := Lib.hid FH
 replace hXc := Lib.hid hXc
 have hS := Lib.hid (show (Tryz.prog.info? 43).map (·.size) = some SV.size by rw [hsz]; exact sizeRSet)
 go_enter Tryz.func6, Tryz.ntmps6
 go_upto_region 1 with fail
 have RS := Lib.hid (fun W (hB : Below (w.alloc (.cells SV 43)).heap.size (w.alloc (.cells SV 43)) W) => (show W.rangeAt w.heap.size 0 SV.toList from box_range hB))
 have B0 := Lib.hid (show Below w.heap.size w (w.alloc (.cells SV 43)) from by (repeat' (first|assumption|exact Below.refl _ _|apply Below.next_alloc|apply Below.drew|(apply Below.next;rotate_left;assumption))))
 have Z0 := Lib.hid (show w.heap.size < (w.alloc (.cells SV 43)).heap.size by simp)
 generalize (w.alloc (.cells SV 43)) = W0 at *
 go_upto_region 4 with (first
  | (refine wpList_load_arr rfl 43 _ rfl w.heap.size 0 rfl SV _ (RS.out _ (by (repeat' (first|assumption|exact Below.refl _ _|apply Below.next_alloc|apply Below.drew|(apply Below.next;rotate_left;assumption))))) Tryz.underlying43 rfl hS.out ?_)
  | (go_at_call 19; (with_reducible refine (FS.out _ (Below.next B0.out (by (repeat' (first|assumption|exact Below.refl _ _|apply Below.next_alloc|apply Below.drew|(apply Below.next;rotate_left;assumption)))))).mono ?_); rintro e w1 ⟨rfl, hB1⟩)
  | (go_at_call 21; (with_reducible refine (FO.out _ (Below.next B0.out (by (repeat' (first|assumption|exact Below.refl _ _|apply Below.next_alloc|apply Below.drew|(apply Below.next;rotate_left;assumption)))))).mono ?_); rintro e w2 ⟨SX, rfl, hSX0, hB2⟩; obtain ⟨hs19, hone⟩ := hX.out _ _ hSX0; have hSX := Lib.hid (show (Tryz.prog.info? 48).map (·.size) = some SX.size by rw [hs19]; exact sizeSet))
  | (refine wpList_store_new rfl 48 _ _ rfl SX w2.heap.size rfl rfl rfl hSX.out (by rw [hs19]; rfl) hone ?_))
 clear hT s0 s1
 obtain ⟨e4, ai, ni, ci, ao, no, co, e17, e18⟩ := hXc.out _ _ hSX0
 replace e4 := Lib.hid e4
 replace e17 := Lib.hid e17
 replace e18 := Lib.hid e18
 have RX := fun W (hB : Below (w2.alloc (.cells SX 48)).heap.size (w2.alloc (.cells SX 48)) W) => box_range hB
 have LX := fun W (hB : Below (w2.alloc (.cells SX 48)).heap.size (w2.alloc (.cells SX 48)) W) => XL.out _ _ W hSX0 (Below.next_allocs' hB)
 have CX := fun W (hB : Below (w2.alloc (.cells SX 48)).heap.size (w2.alloc (.cells SX 48)) W) i v (h : SX[i]? = some v) => (show W.cell? ⟨w2.heap.size, i, none⟩ = some v from box_cell hB h)
 have BW1 : Below W0.heap.size W0 (w2.alloc (.cells SX 48)) := by (repeat' (first|assumption|exact Below.refl _ _|apply Below.next_alloc|apply Below.drew|(apply Below.next;rotate_left;assumption)))
 generalize w2.alloc (.cells SX 48) = W1 at *
 replace RX := Lib.hid RX
 replace LX := Lib.hid LX
 replace CX := Lib.hid CX
 have B1 := Lib.hid (Below.next B0.out BW1)
 replace RS := Lib.hid (fun W (hB : Below W1.heap.size W1 W) => RS.out W (Below.next BW1 hB))
 have n4 := CX.out W1 (Below.refl _ _) 4 _ e4.out
 have n17 := CX.out W1 (Below.refl _ _) 17 _ e17.out
 have n18 := CX.out W1 (Below.refl _ _) 18 _ e18.out
 clear RS BW1 hB2 hB1 hone hs19 XL hX FS FO
 go_wp2_with (first
  | (refine wpList_load_arr rfl 48 _ rfl w2.heap.size 0 rfl SX _ (RX.out _ (by (repeat' (first|assumption|exact Below.refl _ _|apply Below.next_alloc|apply Below.drew|(apply Below.next;rotate_left;assumption))))) Tryz.underlying48 rfl hSX.out ?_)
  | (go_at_call 24; (with_reducible refine (FH.out _ _ (LX.out _ (by (repeat' (first|assumption|exact Below.refl _ _|apply Below.next_alloc|apply Below.drew|(apply Below.next;rotate_left;assumption))))) (Below.next B1.out (by (repeat' (first|assumption|exact Below.refl _ _|apply Below.next_alloc|apply Below.drew|(apply Below.next;rotate_left;assumption)))))).mono ?_); rintro e0 y1 ⟨rfl, hC1⟩; clear n4 n17 n18; have n4 := CX.out y1 (by (repeat' (first|assumption|exact Below.refl _ _|apply Below.next_alloc|apply Below.drew|(apply Below.next;rotate_left;assumption)))) 4 _ e4.out; have n17 := CX.out y1 (by (repeat' (first|assumption|exact Below.refl _ _|apply Below.next_alloc|apply Below.drew|(apply Below.next;rotate_left;assumption)))) 17 _ e17.out; have n18 := CX.out y1 (by (repeat' (first|assumption|exact Below.refl _ _|apply Below.next_alloc|apply Below.drew|(apply Below.next;rotate_left;assumption)))) 18 _ e18.out)
  | (go_at_call 20; (with_reducible refine (AW.out _ (Below.next B1.out (by (repeat' (first|assumption|exact Below.refl _ _|apply Below.next_alloc|apply Below.drew|(apply Below.next;rotate_left;assumption)))))).mono ?_); rintro e z9 ⟨rfl, hCz⟩))
 go_ret
 exact ⟨rfl, Below.next B1.out (by (repeat' (first|assumption|exact Below.refl _ _|apply Below.next_alloc|apply Below.drew|(apply Below.next;rotate_left;assumption))))⟩
set_option maxHeartbeats 16000000 in
set_option maxRecDepth 100000 in
theorem lmem_ok (w : World) (SV : Array Value) (hsz : SV.size = 19) (X : Array Value → World → Prop) (hX : ∀ SX W, X SX W → SX.size = 19 ∧ SX.all (·.oneCell') = true) (XL : ∀ SX W W2, X SX W → Below W.heap.size W W2 → X SX W2)
  (FS : ∀ W, Below w.heap.size w W → Calls Tryz.prog 19 #[.agg SV] W fun e w' => e = .returned (.bool true) ∧ Below W.heap.size W w')
  (FO : ∀ W, Below w.heap.size w W → Calls Tryz.prog 21 #[.agg SV] W fun e w' => ∃ SX, e = .returned (.agg SX) ∧ X SX w' ∧ Below W.heap.size W w')
  (AW : ∀ W, Below w.heap.size w W → Calls Tryz.prog 20 #[] W fun e w' => e = .returned (.bool true) ∧ Below W.heap.size W w')
  (sec T count n : Int) (cb is hi ho : Bool) (hXc : ∀ SX W, X SX W → SX[4]? = some (.int .i64 count) ∧ ∃ ai ni ci ao no co, SX[17]? = some (.slice ai ni ci) ∧ SX[18]? = some (.slice ao no co)) (s0 : 0 ≤ sec) (s1 : sec ≤ 18446744073709551615) (hT : sec % 315537897600 = T)
  (FH : ∀ SX W, X SX W → Below w.heap.size w W → Calls Tryz.prog 24 #[.agg SX, .int .i64 T, .int .i64 4000] W fun r w' => r = .returned (.tuple #[.bool is, .int .i64 0]) ∧ Below W.heap.size W w')
  (FC : ∀ SX W, X SX W → Below w.heap.size w W → Calls Tryz.prog 30 #[.agg SX, .int .i64 T] W fun e w' => e = .returned (.bool cb) ∧ Below W.heap.size W w')
  (FR : cb = true → ∀ SX W, X SX W → Below w.heap.size w W → Calls Tryz.prog 31 #[.agg SX, .int .i64 T] W fun e w' => e = .returned (.int .i64 n) ∧ Below W.heap.size W w')
  (FI : ∀ SX W v, X SX W → SX[17]? = some v → Calls Tryz.prog 32 #[v, .int .i64 T] W fun e w' => e = .returned (.bool hi) ∧ W = w')
  (FT : ∀ SX W v, X SX W → SX[18]? = some v → Calls Tryz.prog 32 #[v, .int .i64 T] W fun e w' => e = .returned (.bool ho) ∧ W = w')
  (H : (cb = false ∧ is = (hi && !ho)) ∨ (cb = true ∧ count ≤ 0 ∧ is = !ho) ∨ (cb = true ∧ 0 < count ∧ n = 0) ∨ (cb = true ∧ 0 < count ∧ 0 < n ∧ n ≤ count ∧ is = !ho) ∨ (cb = true ∧ 0 < count ∧ 0 < n ∧ count < n ∧ is = (hi && !ho))) : Calls Tryz.prog 6 #[.agg SV, .int .u64 sec] w fun e w' => e = .returned (.bool true) ∧ Below w.heap.size w w' := by
 have t0 : 0 ≤ T ∧ T ≤ 315537897599 := by omega
 obtain ⟨t0, t1⟩ := t0
 replace FS := Lib.hid FS
 replace FO := Lib.hid FO
 replace AW := Lib.hid AW
 replace hX := Lib.hid hX
 replace XL := Lib.hid XL
 replace FH := Lib.hid FH
 replace FC := Lib.hid FC
 replace FR := Lib.hid FR
 replace FI := Lib.hid FI
 replace FT := Lib.hid FT
 replace H := Lib.hid H
 replace hXc := Lib.hid hXc
 have hS := Lib.hid (show (Tryz.prog.info? 43).map (·.size) = some SV.size by rw [hsz]; exact sizeRSet)
 go_enter Tryz.func6, Tryz.ntmps6
 go_upto_region 1 with fail
 have RS := Lib.hid (fun W (hB : Below (w.alloc (.cells SV 43)).heap.size (w.alloc (.cells SV 43)) W) => (show W.rangeAt w.heap.size 0 SV.toList from box_range hB))
 have B0 := Lib.hid (show Below w.heap.size w (w.alloc (.cells SV 43)) from by (repeat' (first|assumption|exact Below.refl _ _|apply Below.next_alloc|apply Below.drew|(apply Below.next;rotate_left;assumption))))
 have Z0 := Lib.hid (show w.heap.size < (w.alloc (.cells SV 43)).heap.size by simp)
 generalize (w.alloc (.cells SV 43)) = W0 at *
 go_upto_region 4 with (first
  | (refine wpList_load_arr rfl 43 _ rfl w.heap.size 0 rfl SV _ (RS.out _ (by (repeat' (first|assumption|exact Below.refl _ _|apply Below.next_alloc|apply Below.drew|(apply Below.next;rotate_left;assumption))))) Tryz.underlying43 rfl hS.out ?_)
  | (go_at_call 19; (with_reducible refine (FS.out _ (Below.next B0.out (by (repeat' (first|assumption|exact Below.refl _ _|apply Below.next_alloc|apply Below.drew|(apply Below.next;rotate_left;assumption)))))).mono ?_); rintro e w1 ⟨rfl, hB1⟩)
  | (go_at_call 21; (with_reducible refine (FO.out _ (Below.next B0.out (by (repeat' (first|assumption|exact Below.refl _ _|apply Below.next_alloc|apply Below.drew|(apply Below.next;rotate_left;assumption)))))).mono ?_); rintro e w2 ⟨SX, rfl, hSX0, hB2⟩; obtain ⟨hs19, hone⟩ := hX.out _ _ hSX0; have hSX := Lib.hid (show (Tryz.prog.info? 48).map (·.size) = some SX.size by rw [hs19]; exact sizeSet))
  | (refine wpList_store_new rfl 48 _ _ rfl SX w2.heap.size rfl rfl rfl hSX.out (by rw [hs19]; rfl) hone ?_))
 clear hT s0 s1
 obtain ⟨e4, ai, ni, ci, ao, no, co, e17, e18⟩ := hXc.out _ _ hSX0
 replace e4 := Lib.hid e4
 replace e17 := Lib.hid e17
 replace e18 := Lib.hid e18
 have RX := fun W (hB : Below (w2.alloc (.cells SX 48)).heap.size (w2.alloc (.cells SX 48)) W) => box_range hB
 have LX := fun W (hB : Below (w2.alloc (.cells SX 48)).heap.size (w2.alloc (.cells SX 48)) W) => XL.out _ _ W hSX0 (Below.next_allocs' hB)
 have CX := fun W (hB : Below (w2.alloc (.cells SX 48)).heap.size (w2.alloc (.cells SX 48)) W) i v (h : SX[i]? = some v) => (show W.cell? ⟨w2.heap.size, i, none⟩ = some v from box_cell hB h)
 have BW1 : Below W0.heap.size W0 (w2.alloc (.cells SX 48)) := by (repeat' (first|assumption|exact Below.refl _ _|apply Below.next_alloc|apply Below.drew|(apply Below.next;rotate_left;assumption)))
 generalize w2.alloc (.cells SX 48) = W1 at *
 replace RX := Lib.hid RX
 replace LX := Lib.hid LX
 replace CX := Lib.hid CX
 have B1 := Lib.hid (Below.next B0.out BW1)
 replace RS := Lib.hid (fun W (hB : Below W1.heap.size W1 W) => RS.out W (Below.next BW1 hB))
 have n4 := CX.out W1 (Below.refl _ _) 4 _ e4.out
 have n17 := CX.out W1 (Below.refl _ _) 17 _ e17.out
 have n18 := CX.out W1 (Below.refl _ _) 18 _ e18.out
 clear RS BW1 hB2 hB1 hone hs19 XL hX FS FO
 clear hXc
 rcases H.out with ⟨rfl, hz⟩ | ⟨rfl, h1, hz⟩ | ⟨rfl, h1, rfl⟩ | ⟨rfl, h1, h2, h3, hz⟩ | ⟨rfl, h1, h2, h3, hz⟩
 all_goals clear H
 all_goals try replace FR := Lib.hid (FR.out rfl)
 rotate_left 2
 ·cases is
  all_goals
   as_aux_lemma =>
   go_wp2_with (first
  | (refine wpList_load_arr rfl 48 _ rfl w2.heap.size 0 rfl SX _ (RX.out _ (by (repeat' (first|assumption|exact Below.refl _ _|apply Below.next_alloc|apply Below.drew|(apply Below.next;rotate_left;assumption))))) Tryz.underlying48 rfl hSX.out ?_)
    | (go_at_call 24; (with_reducible refine (FH.out _ _ (LX.out _ (by (repeat' (first|assumption|exact Below.refl _ _|apply Below.next_alloc|apply Below.drew|(apply Below.next;rotate_left;assumption))))) (Below.next B1.out (by (repeat' (first|assumption|exact Below.refl _ _|apply Below.next_alloc|apply Below.drew|(apply Below.next;rotate_left;assumption)))))).mono ?_); rintro e0 y1 ⟨rfl, hC1⟩; clear n4 n17 n18; have n4 := CX.out y1 (by (repeat' (first|assumption|exact Below.refl _ _|apply Below.next_alloc|apply Below.drew|(apply Below.next;rotate_left;assumption)))) 4 _ e4.out; have n17 := CX.out y1 (by (repeat' (first|assumption|exact Below.refl _ _|apply Below.next_alloc|apply Below.drew|(apply Below.next;rotate_left;assumption)))) 17 _ e17.out; have n18 := CX.out y1 (by (repeat' (first|assumption|exact Below.refl _ _|apply Below.next_alloc|apply Below.drew|(apply Below.next;rotate_left;assumption)))) 18 _ e18.out)
    | (go_at_call 30; (with_reducible refine (FC.out _ _ (LX.out _ (by (repeat' (first|assumption|exact Below.refl _ _|apply Below.next_alloc|apply Below.drew|(apply Below.next;rotate_left;assumption))))) (Below.next B1.out (by (repeat' (first|assumption|exact Below.refl _ _|apply Below.next_alloc|apply Below.drew|(apply Below.next;rotate_left;assumption)))))).mono ?_); rintro e0 y2 ⟨rfl, hC2⟩; clear n4 n17 n18; have n4 := CX.out y2 (by (repeat' (first|assumption|exact Below.refl _ _|apply Below.next_alloc|apply Below.drew|(apply Below.next;rotate_left;assumption)))) 4 _ e4.out; have n17 := CX.out y2 (by (repeat' (first|assumption|exact Below.refl _ _|apply Below.next_alloc|apply Below.drew|(apply Below.next;rotate_left;assumption)))) 17 _ e17.out; have n18 := CX.out y2 (by (repeat' (first|assumption|exact Below.refl _ _|apply Below.next_alloc|apply Below.drew|(apply Below.next;rotate_left;assumption)))) 18 _ e18.out)
    | (go_at_call 31; (with_reducible refine (FR.out _ _ (LX.out _ (by (repeat' (first|assumption|exact Below.refl _ _|apply Below.next_alloc|apply Below.drew|(apply Below.next;rotate_left;assumption))))) (Below.next B1.out (by (repeat' (first|assumption|exact Below.refl _ _|apply Below.next_alloc|apply Below.drew|(apply Below.next;rotate_left;assumption)))))).mono ?_); rintro e0 y3 ⟨rfl, hC3⟩; clear n4 n17 n18; have n4 := CX.out y3 (by (repeat' (first|assumption|exact Below.refl _ _|apply Below.next_alloc|apply Below.drew|(apply Below.next;rotate_left;assumption)))) 4 _ e4.out; have n17 := CX.out y3 (by (repeat' (first|assumption|exact Below.refl _ _|apply Below.next_alloc|apply Below.drew|(apply Below.next;rotate_left;assumption)))) 17 _ e17.out; have n18 := CX.out y3 (by (repeat' (first|assumption|exact Below.refl _ _|apply Below.next_alloc|apply Below.drew|(apply Below.next;rotate_left;assumption)))) 18 _ e18.out)
    | (go_at_call 32; (with_reducible refine (FI.out _ _ _ (LX.out _ (by (repeat' (first|assumption|exact Below.refl _ _|apply Below.next_alloc|apply Below.drew|(apply Below.next;rotate_left;assumption))))) e17.out).mono ?_); rintro e0 y4 ⟨rfl, rfl⟩)
    | (go_at_call 32; (with_reducible refine (FT.out _ _ _ (LX.out _ (by (repeat' (first|assumption|exact Below.refl _ _|apply Below.next_alloc|apply Below.drew|(apply Below.next;rotate_left;assumption))))) e18.out).mono ?_); rintro e0 y5 ⟨rfl, rfl⟩)
    | (go_at_call 20; (with_reducible refine (AW.out _ (Below.next B1.out (by (repeat' (first|assumption|exact Below.refl _ _|apply Below.next_alloc|apply Below.drew|(apply Below.next;rotate_left;assumption)))))).mono ?_); rintro e z9 ⟨rfl, hCz⟩))
   go_ret
   exact ⟨rfl, Below.next B1.out (by (repeat' (first|assumption|exact Below.refl _ _|apply Below.next_alloc|apply Below.drew|(apply Below.next;rotate_left;assumption))))⟩
 all_goals
  subst hz
  cases hi <;> cases ho
 all_goals
  as_aux_lemma =>
  go_wp2_with (first
  | (refine wpList_load_arr rfl 48 _ rfl w2.heap.size 0 rfl SX _ (RX.out _ (by (repeat' (first|assumption|exact Below.refl _ _|apply Below.next_alloc|apply Below.drew|(apply Below.next;rotate_left;assumption))))) Tryz.underlying48 rfl hSX.out ?_)
  | (go_at_call 24; (with_reducible refine (FH.out _ _ (LX.out _ (by (repeat' (first|assumption|exact Below.refl _ _|apply Below.next_alloc|apply Below.drew|(apply Below.next;rotate_left;assumption))))) (Below.next B1.out (by (repeat' (first|assumption|exact Below.refl _ _|apply Below.next_alloc|apply Below.drew|(apply Below.next;rotate_left;assumption)))))).mono ?_); rintro e0 y1 ⟨rfl, hC1⟩; clear n4 n17 n18; have n4 := CX.out y1 (by (repeat' (first|assumption|exact Below.refl _ _|apply Below.next_alloc|apply Below.drew|(apply Below.next;rotate_left;assumption)))) 4 _ e4.out; have n17 := CX.out y1 (by (repeat' (first|assumption|exact Below.refl _ _|apply Below.next_alloc|apply Below.drew|(apply Below.next;rotate_left;assumption)))) 17 _ e17.out; have n18 := CX.out y1 (by (repeat' (first|assumption|exact Below.refl _ _|apply Below.next_alloc|apply Below.drew|(apply Below.next;rotate_left;assumption)))) 18 _ e18.out)
  | (go_at_call 30; (with_reducible refine (FC.out _ _ (LX.out _ (by (repeat' (first|assumption|exact Below.refl _ _|apply Below.next_alloc|apply Below.drew|(apply Below.next;rotate_left;assumption))))) (Below.next B1.out (by (repeat' (first|assumption|exact Below.refl _ _|apply Below.next_alloc|apply Below.drew|(apply Below.next;rotate_left;assumption)))))).mono ?_); rintro e0 y2 ⟨rfl, hC2⟩; clear n4 n17 n18; have n4 := CX.out y2 (by (repeat' (first|assumption|exact Below.refl _ _|apply Below.next_alloc|apply Below.drew|(apply Below.next;rotate_left;assumption)))) 4 _ e4.out; have n17 := CX.out y2 (by (repeat' (first|assumption|exact Below.refl _ _|apply Below.next_alloc|apply Below.drew|(apply Below.next;rotate_left;assumption)))) 17 _ e17.out; have n18 := CX.out y2 (by (repeat' (first|assumption|exact Below.refl _ _|apply Below.next_alloc|apply Below.drew|(apply Below.next;rotate_left;assumption)))) 18 _ e18.out)
  | (go_at_call 31; (with_reducible refine (FR.out _ _ (LX.out _ (by (repeat' (first|assumption|exact Below.refl _ _|apply Below.next_alloc|apply Below.drew|(apply Below.next;rotate_left;assumption))))) (Below.next B1.out (by (repeat' (first|assumption|exact Below.refl _ _|apply Below.next_alloc|apply Below.drew|(apply Below.next;rotate_left;assumption)))))).mono ?_); rintro e0 y3 ⟨rfl, hC3⟩; clear n4 n17 n18; have n4 := CX.out y3 (by (repeat' (first|assumption|exact Below.refl _ _|apply Below.next_alloc|apply Below.drew|(apply Below.next;rotate_left;assumption)))) 4 _ e4.out; have n17 := CX.out y3 (by (repeat' (first|assumption|exact Below.refl _ _|apply Below.next_alloc|apply Below.drew|(apply Below.next;rotate_left;assumption)))) 17 _ e17.out; have n18 := CX.out y3 (by (repeat' (first|assumption|exact Below.refl _ _|apply Below.next_alloc|apply Below.drew|(apply Below.next;rotate_left;assumption)))) 18 _ e18.out)
  | (go_at_call 32; (with_reducible refine (FI.out _ _ _ (LX.out _ (by (repeat' (first|assumption|exact Below.refl _ _|apply Below.next_alloc|apply Below.drew|(apply Below.next;rotate_left;assumption))))) e17.out).mono ?_); rintro e0 y4 ⟨rfl, rfl⟩)
  | (go_at_call 32; (with_reducible refine (FT.out _ _ _ (LX.out _ (by (repeat' (first|assumption|exact Below.refl _ _|apply Below.next_alloc|apply Below.drew|(apply Below.next;rotate_left;assumption))))) e18.out).mono ?_); rintro e0 y5 ⟨rfl, rfl⟩)
  | (go_at_call 20; (with_reducible refine (AW.out _ (Below.next B1.out (by (repeat' (first|assumption|exact Below.refl _ _|apply Below.next_alloc|apply Below.drew|(apply Below.next;rotate_left;assumption)))))).mono ?_); rintro e z9 ⟨rfl, hCz⟩))
  go_ret
  exact ⟨rfl, Below.next B1.out (by (repeat' (first|assumption|exact Below.refl _ _|apply Below.next_alloc|apply Below.drew|(apply Below.next;rotate_left;assumption))))⟩
end Go.Proofs.YtkbohijlhhpfbaaGreatDoor.Rs
