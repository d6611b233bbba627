/- The walk of the law RsetParts (printed by gen_law26.py). -/
import Derived.Test.YtkbohijlhhpfbaaGreatDoorVZr
import Derived.Test.YtkbohijlhhpfbaaGreatDoorVTt
import Derived.Laws.AppendOwnNone
namespace Go.Proofs.YtkbohijlhhpfbaaGreatDoor.Rs
open Go.RowKit Ru Ut Cw Ra Xp
theorem push_list {ops : Array Oper} {rest : List Oper} {o : Oper} {a : Act} {Q : Exit → Act → World → Prop} {W : World} (hgd : o.guard = none) (s x : Operand)
  (ho : o.op = .call { callee := .builtin .append, args := #[s, x], argTypes := #[24, 24] }) (B : Nat) (v : Value) (l : List Int) (hs : a.eval s = v) (hown : OwnI W B v l)
  (B2 : Nat) (u : Value) (m : List Int) (hx : a.eval x = u) (hu : OwnI W B2 u m) (hn : l.length + m.length ≤ 1000000) (hB : B ≤ W.heap.size)
  (h : ∀ v' w', OwnI w' B v' (l ++ m) → Below B W w' → wpList Tryz.prog ops Q rest (a.put o.dst v') w') : wpList Tryz.prog ops Q (o :: rest) a W := by
 obtain ⟨i0, hi, hz0, hz1, hz2⟩ := info_parts infoInt
 have hu0 := hu
 rcases hu with ⟨_, ⟨rfl, h0⟩ | ⟨g, cap, cur, rfl, hb, hg, hc, hm, hsz, ht⟩⟩
 ·obtain rfl : m = [] := List.eq_nil_of_length_eq_zero h0
  refine wpList_append_own_none hgd s x _ ho B 3 i0 1 Tryz.underlying24 hi v l.length (ic l) hs hown hx ?_
  exact h v W (by rw [List.append_nil]; exact hown) (Below.refl _ _)
 ·refine wpList_append_own W hgd s x _ ho B 3 i0 (.int .i64 0) 1 8 Tryz.underlying24 hi hz0 hz1 hz2 rfl (by decide) v l.length (ic l) hs hown
   ⟨g, 0, none⟩ m.length cap (ic m) hx (by rw [ic_length, Nat.mul_one]) (fun j u hj => ?_) (fun u hu => by
    unfold ic at hu
    obtain ⟨z, -, rfl⟩ := List.mem_map.1 hu
    rfl) (by unfold maxLen; omega) (by omega) hB fun v' w' h1 h2 _ => ?_
  ·have hj2 : j < m.length := by
    have := (List.getElem?_eq_some_iff.1 hj).1
    rwa [ic_length] at this
   have := World.ownsRow.cellAt hu0 j (by omega)
   rw [hj] at this
   have ea : (⟨g, 0, none⟩ : Addr).add j = ⟨g, j, none⟩ := by by_cases h0 : j = 0 <;> simp [Addr.add, h0]
   rw [ea]
   exact this
  ·refine h v' w' ?_ ((Below.refl B W).grown h2 hB fun k hk => (World.ownsRow.lt hown k hk).1)
   unfold OwnI
   rw [ic_append, List.length_append]
   exact h1
set_option maxHeartbeats 4000000 in
set_option maxRecDepth 100000 in
theorem lpart_no (w : World) (SV : Array Value) (n0 n1 at_ : Int) (hsz : SV.size = 19)
  (FS : ∀ W, Below w.heap.size w W → Calls Tryz.prog 19 #[.agg SV] W fun e w' => e = .returned (.bool false) ∧ Below W.heap.size W w')
  (AW : ∀ W, Below w.heap.size w W → Calls Tryz.prog 20 #[] W fun e w' => e = .returned (.bool true) ∧ Below W.heap.size W w') : Calls Tryz.prog 7 #[.agg SV, .agg #[.int .u64 n0, .int .u64 n1], .int .u64 at_] w fun e w' => e = .returned (.bool true) ∧ Below w.heap.size w w' := by
 replace FS := Lib.hid FS
 replace AW := Lib.hid AW
 have hS := Lib.hid (show (Tryz.prog.info? 43).map (·.size) = some SV.size by rw [hsz]; exact sizeRSet)
 clear hsz
 have RS := Lib.hid (fun W (hB : Below (w.alloc (.cells SV 43)).heap.size (w.alloc (.cells SV 43)) W) => box_range hB)
 go_enter Tryz.func7, Tryz.ntmps7
 go_wp2_with (first
  | (refine wpList_load_arr rfl 43 _ rfl w.heap.size 0 rfl SV _ (RS.out _ (by (repeat' (first|assumption|exact Below.refl _ _|apply Below.next_alloc|apply Below.drew|(apply Below.next;rotate_left;assumption))))) Tryz.underlying43 rfl hS.out ?_)
  | (go_at_call 19; (with_reducible refine (FS.out _ (by (repeat' (first|assumption|exact Below.refl _ _|apply Below.next_alloc|apply Below.drew|(apply Below.next;rotate_left;assumption))))).mono ?_); rintro e w1 ⟨rfl, hB1⟩)
  | (go_at_call 20; (with_reducible refine (AW.out _ (Below.next (by (repeat' (first|assumption|exact Below.refl _ _|apply Below.next_alloc|apply Below.drew|(apply Below.next;rotate_left;assumption)))) hB1)).mono ?_); rintro e w2 ⟨rfl, hB2⟩))
 go_ret
 exact ⟨rfl, Below.next (Below.next (by (repeat' (first|assumption|exact Below.refl _ _|apply Below.next_alloc|apply Below.drew|(apply Below.next;rotate_left;assumption)))) hB1) hB2⟩
set_option maxHeartbeats 8000000 in
set_option maxRecDepth 100000 in
theorem lpart_err (w : World) (SV : Array Value) (hsz : SV.size = 19) (X : Array Value → World → Prop) (hX : ∀ SX W, X SX W → SX.size = 19 ∧ SX.all (·.oneCell') = true) (XL : ∀ SX W W2, X SX W → Below W.heap.size W W2 → X SX W2)
  (FS : ∀ W, Below w.heap.size w W → Calls Tryz.prog 19 #[.agg SV] W fun e w' => e = .returned (.bool true) ∧ Below W.heap.size W w')
  (FO : ∀ W, Below w.heap.size w W → Calls Tryz.prog 21 #[.agg SV] W fun e w' => ∃ SX, e = .returned (.agg SX) ∧ X SX w' ∧ Below W.heap.size W w')
  (AW : ∀ W, Below w.heap.size w W → Calls Tryz.prog 20 #[] W fun e w' => e = .returned (.bool true) ∧ Below W.heap.size W w')
  (u u1 u2 e e1 e2 count : Int) (L1 L2 : List Int) (hXc : ∀ SX W, X SX W → SX[4]? = some (.int .i64 count)) (n0 n1 at_ a r1 b r2 m : Int) (a0 : 0 ≤ a) (a1 : a ≤ 315537897599) (hr0 : 0 ≤ r1) (hr1 : a + r1 ≤ 315537897600) (hb : a + r1 = b) (hq0 : 0 ≤ r2) (hq1 : a + r2 ≤ b) (hm : a + r2 = m)
  (x0 : 0 ≤ n0) (x1 : n0 ≤ 18446744073709551615) (z0 : 0 ≤ n1) (z1 : n1 ≤ 18446744073709551615) (w0 : 0 ≤ at_) (w1 : at_ ≤ 18446744073709551615) (hA : n0 % 315537897600 = a) (hR : n1 % (315537897601 - a) = r1) (hQ : at_ % (b - a + 1) = r2)
  (FW : ∀ SX W, X SX W → Below w.heap.size w W → Calls Tryz.prog 22 #[.agg SX, .int .i64 a, .int .i64 b, .int .i64 4000] W fun r w' => ∃ v, r = .returned (.tuple #[v, .int .i64 u, .int .i64 e]) ∧ OwnI w' W.heap.size v [] ∧ Below W.heap.size W w')
  (FA : ∀ SX W, X SX W → Below w.heap.size w W → Calls Tryz.prog 22 #[.agg SX, .int .i64 a, .int .i64 m, .int .i64 4000] W fun r w' => ∃ v, r = .returned (.tuple #[v, .int .i64 u1, .int .i64 e1]) ∧ OwnI w' W.heap.size v L1 ∧ Below W.heap.size W w')
  (FB : ∀ SX W, X SX W → Below w.heap.size w W → Calls Tryz.prog 22 #[.agg SX, .int .i64 m, .int .i64 b, .int .i64 4000] W fun r w' => ∃ v, r = .returned (.tuple #[v, .int .i64 u2, .int .i64 e2]) ∧ OwnI w' W.heap.size v L2 ∧ Below W.heap.size W w')
  (he : (e != 0) = true) (he2 : (e == 0) = false) : Calls Tryz.prog 7 #[.agg SV, .agg #[.int .u64 n0, .int .u64 n1], .int .u64 at_] w fun e w' => e = .returned (.bool true) ∧ Below w.heap.size w w' := by
 replace FS := Lib.hid FS
 replace FO := Lib.hid FO
 replace AW := Lib.hid AW
 replace hX := Lib.hid hX
 replace XL := Lib.hid XL
 replace FW := Lib.hid FW
 replace FA := Lib.hid FA
 replace FB := Lib.hid FB
 replace hXc := Lib.hid hXc
 have hS := Lib.hid (show (Tryz.prog.info? 43).map (·.size) = some SV.size by rw [hsz]; exact sizeRSet)
 go_enter Tryz.func7, Tryz.ntmps7
 go_upto_region 1 with fail
 have RS := Lib.hid (fun W (hB : Below ((w.alloc (.cells SV 43)).alloc (.cells #[.int .u64 n0, .int .u64 n1] 72)).heap.size ((w.alloc (.cells SV 43)).alloc (.cells #[.int .u64 n0, .int .u64 n1] 72)) W) => (show W.rangeAt w.heap.size 0 SV.toList from box_range2 hB))
 have RN := fun W (hB : Below ((w.alloc (.cells SV 43)).alloc (.cells #[.int .u64 n0, .int .u64 n1] 72)).heap.size ((w.alloc (.cells SV 43)).alloc (.cells #[.int .u64 n0, .int .u64 n1] 72)) W) i v (h : #[.int .u64 n0, .int .u64 n1][i]? = some v) => (show W.cell? ⟨w.heap.size + 1, i, none⟩ = some v from box_second hB h)
 have B0 := Lib.hid (show Below w.heap.size w ((w.alloc (.cells SV 43)).alloc (.cells #[.int .u64 n0, .int .u64 n1] 72)) from by (repeat' (first|assumption|exact Below.refl _ _|apply Below.next_alloc|apply Below.drew|(apply Below.next;rotate_left;assumption))))
 have Z0 := Lib.hid (show w.heap.size < ((w.alloc (.cells SV 43)).alloc (.cells #[.int .u64 n0, .int .u64 n1] 72)).heap.size by simp; omega)
 generalize ((w.alloc (.cells SV 43)).alloc (.cells #[.int .u64 n0, .int .u64 n1] 72)) = W0 at *
 replace RN := Lib.hid RN
 go_upto_region 4 with (first
  | (refine wpList_load_arr rfl 43 _ rfl w.heap.size 0 rfl SV _ (RS.out _ (by (repeat' (first|assumption|exact Below.refl _ _|apply Below.next_alloc|apply Below.drew|(apply Below.next;rotate_left;assumption))))) Tryz.underlying43 rfl hS.out ?_)
  | (go_at_call 19; (with_reducible refine (FS.out _ (Below.next B0.out (by (repeat' (first|assumption|exact Below.refl _ _|apply Below.next_alloc|apply Below.drew|(apply Below.next;rotate_left;assumption)))))).mono ?_); rintro e w1 ⟨rfl, hB1⟩)
  | (go_at_call 21; (with_reducible refine (FO.out _ (Below.next B0.out (by (repeat' (first|assumption|exact Below.refl _ _|apply Below.next_alloc|apply Below.drew|(apply Below.next;rotate_left;assumption)))))).mono ?_); rintro e w2 ⟨SX, rfl, hSX0, hB2⟩; obtain ⟨hs19, hone⟩ := hX.out _ _ hSX0; have hSX := Lib.hid (show (Tryz.prog.info? 48).map (·.size) = some SX.size by rw [hs19]; exact sizeSet))
  | (refine wpList_store_new rfl 48 _ _ rfl SX w2.heap.size rfl rfl rfl hSX.out (by rw [hs19]; rfl) hone ?_))
 have e4 := Lib.hid (hXc.out _ _ hSX0)
 have RX := fun W (hB : Below (w2.alloc (.cells SX 48)).heap.size (w2.alloc (.cells SX 48)) W) => box_range hB
 have LX := fun W (hB : Below (w2.alloc (.cells SX 48)).heap.size (w2.alloc (.cells SX 48)) W) => XL.out _ _ W hSX0 (Below.next_allocs' hB)
 have CX := fun W (hB : Below (w2.alloc (.cells SX 48)).heap.size (w2.alloc (.cells SX 48)) W) i v (h : SX[i]? = some v) => (show W.cell? ⟨w2.heap.size, i, none⟩ = some v from box_cell hB h)
 have BW1 : Below W0.heap.size W0 (w2.alloc (.cells SX 48)) := by (repeat' (first|assumption|exact Below.refl _ _|apply Below.next_alloc|apply Below.drew|(apply Below.next;rotate_left;assumption)))
 generalize w2.alloc (.cells SX 48) = W1 at *
 replace RX := Lib.hid RX
 replace LX := Lib.hid LX
 replace CX := Lib.hid CX
 have B1 := Lib.hid (Below.next B0.out BW1)
 replace RS := Lib.hid (fun W (hB : Below W1.heap.size W1 W) => RS.out W (Below.next BW1 hB))
 have n4 := CX.out W1 (Below.refl _ _) 4 _ e4.out
 have g0 := RN.out W1 BW1 0 _ rfl
 have g1 := RN.out W1 BW1 1 _ rfl
 have B11 := Lib.hid BW1
 clear RS BW1 hB2 hB1 hone hs19 XL hX FS FO
 clear hXc
 go_wp2_with (first
  | (refine wpList_load_arr rfl 48 _ rfl w2.heap.size 0 rfl SX _ (RX.out _ (by (repeat' (first|assumption|exact Below.refl _ _|apply Below.next_alloc|apply Below.drew|(apply Below.next;rotate_left;assumption))))) Tryz.underlying48 rfl hSX.out ?_)
  | (go_at_call 22; (with_reducible refine (FW.out _ _ (LX.out _ (by (repeat' (first|assumption|exact Below.refl _ _|apply Below.next_alloc|apply Below.drew|(apply Below.next;rotate_left;assumption))))) (Below.next B1.out (by (repeat' (first|assumption|exact Below.refl _ _|apply Below.next_alloc|apply Below.drew|(apply Below.next;rotate_left;assumption)))))).mono ?_); rintro e0 y1 ⟨v1, rfl, hO1, hC1⟩; obtain ⟨p1, c1, hv1⟩ := OwnI.slice hO1; subst hv1; replace hO1 := Lib.hid hO1; clear n4; have n4 := CX.out y1 (by (repeat' (first|assumption|exact Below.refl _ _|apply Below.next_alloc|apply Below.drew|(apply Below.next;rotate_left;assumption)))) 4 _ e4.out)
  | (go_at_call 22; (with_reducible refine (FA.out _ _ (LX.out _ (by (repeat' (first|assumption|exact Below.refl _ _|apply Below.next_alloc|apply Below.drew|(apply Below.next;rotate_left;assumption))))) (Below.next B1.out (by (repeat' (first|assumption|exact Below.refl _ _|apply Below.next_alloc|apply Below.drew|(apply Below.next;rotate_left;assumption)))))).mono ?_); rintro e0 y2 ⟨v2, rfl, hO2, hC2⟩; obtain ⟨p2, c2, hv2⟩ := OwnI.slice hO2; subst hv2; replace hO2 := Lib.hid hO2; clear n4; have n4 := CX.out y2 (by (repeat' (first|assumption|exact Below.refl _ _|apply Below.next_alloc|apply Below.drew|(apply Below.next;rotate_left;assumption)))) 4 _ e4.out)
  | (go_at_call 22; (with_reducible refine (FB.out _ _ (LX.out _ (by (repeat' (first|assumption|exact Below.refl _ _|apply Below.next_alloc|apply Below.drew|(apply Below.next;rotate_left;assumption))))) (Below.next B1.out (by (repeat' (first|assumption|exact Below.refl _ _|apply Below.next_alloc|apply Below.drew|(apply Below.next;rotate_left;assumption)))))).mono ?_); rintro e0 y3 ⟨v3, rfl, hO3, hC3⟩; obtain ⟨p3, c3, hv3⟩ := OwnI.slice hO3; subst hv3; replace hO3 := Lib.hid hO3; clear n4; have n4 := CX.out y3 (by (repeat' (first|assumption|exact Below.refl _ _|apply Below.next_alloc|apply Below.drew|(apply Below.next;rotate_left;assumption)))) 4 _ e4.out)
  | (go_at_call 20; (with_reducible refine (AW.out _ (Below.next B1.out (by (repeat' (first|assumption|exact Below.refl _ _|apply Below.next_alloc|apply Below.drew|(apply Below.next;rotate_left;assumption)))))).mono ?_); rintro e z9 ⟨rfl, hCz⟩))
 go_ret
 exact ⟨rfl, Below.next B1.out (by (repeat' (first|assumption|exact Below.refl _ _|apply Below.next_alloc|apply Below.drew|(apply Below.next;rotate_left;assumption))))⟩
set_option maxHeartbeats 8000000 in
set_option maxRecDepth 100000 in
theorem lpart_one (w : World) (SV : Array Value) (hsz : SV.size = 19) (X : Array Value → World → Prop) (hX : ∀ SX W, X SX W → SX.size = 19 ∧ SX.all (·.oneCell') = true) (XL : ∀ SX W W2, X SX W → Below W.heap.size W W2 → X SX W2)
  (FS : ∀ W, Below w.heap.size w W → Calls Tryz.prog 19 #[.agg SV] W fun e w' => e = .returned (.bool true) ∧ Below W.heap.size W w')
  (FO : ∀ W, Below w.heap.size w W → Calls Tryz.prog 21 #[.agg SV] W fun e w' => ∃ SX, e = .returned (.agg SX) ∧ X SX w' ∧ Below W.heap.size W w')
  (AW : ∀ W, Below w.heap.size w W → Calls Tryz.prog 20 #[] W fun e w' => e = .returned (.bool true) ∧ Below W.heap.size W w')
  (u u1 u2 e1 e2 : Int) (L L1 L2 : List Int) (hXc : ∀ SX W, X SX W → SX[4]? = some (.int .i64 0)) (n0 n1 at_ a r1 b r2 m : Int) (a0 : 0 ≤ a) (a1 : a ≤ 315537897599) (hr0 : 0 ≤ r1) (hr1 : a + r1 ≤ 315537897600) (hb : a + r1 = b) (hq0 : 0 ≤ r2) (hq1 : a + r2 ≤ b) (hm : a + r2 = m)
  (x0 : 0 ≤ n0) (x1 : n0 ≤ 18446744073709551615) (z0 : 0 ≤ n1) (z1 : n1 ≤ 18446744073709551615) (w0 : 0 ≤ at_) (w1 : at_ ≤ 18446744073709551615) (hA : n0 % 315537897600 = a) (hR : n1 % (315537897601 - a) = r1) (hQ : at_ % (b - a + 1) = r2)
  (FW : ∀ SX W, X SX W → Below w.heap.size w W → Calls Tryz.prog 22 #[.agg SX, .int .i64 a, .int .i64 b, .int .i64 4000] W fun r w' => ∃ v, r = .returned (.tuple #[v, .int .i64 u, .int .i64 0]) ∧ OwnI w' W.heap.size v L ∧ Below W.heap.size W w')
  (FA : ∀ SX W, X SX W → Below w.heap.size w W → Calls Tryz.prog 22 #[.agg SX, .int .i64 a, .int .i64 m, .int .i64 4000] W fun r w' => ∃ v, r = .returned (.tuple #[v, .int .i64 u1, .int .i64 e1]) ∧ OwnI w' W.heap.size v L1 ∧ Below W.heap.size W w')
  (FB : ∀ SX W, X SX W → Below w.heap.size w W → Calls Tryz.prog 22 #[.agg SX, .int .i64 m, .int .i64 b, .int .i64 4000] W fun r w' => ∃ v, r = .returned (.tuple #[v, .int .i64 u2, .int .i64 e2]) ∧ OwnI w' W.heap.size v L2 ∧ Below W.heap.size W w')
  (he : (e1 != 0) = true) : Calls Tryz.prog 7 #[.agg SV, .agg #[.int .u64 n0, .int .u64 n1], .int .u64 at_] w fun e w' => e = .returned (.bool true) ∧ Below w.heap.size w w' := by
 replace FS := Lib.hid FS
 replace FO := Lib.hid FO
 replace AW := Lib.hid AW
 replace hX := Lib.hid hX
 replace XL := Lib.hid XL
 replace FW := Lib.hid FW
 replace FA := Lib.hid FA
 replace FB := Lib.hid FB
 replace hXc := Lib.hid hXc
 have hS := Lib.hid (show (Tryz.prog.info? 43).map (·.size) = some SV.size by rw [hsz]; exact sizeRSet)
 go_enter Tryz.func7, Tryz.ntmps7
 go_upto_region 1 with fail
 have RS := Lib.hid (fun W (hB : Below ((w.alloc (.cells SV 43)).alloc (.cells #[.int .u64 n0, .int .u64 n1] 72)).heap.size ((w.alloc (.cells SV 43)).alloc (.cells #[.int .u64 n0, .int .u64 n1] 72)) W) => (show W.rangeAt w.heap.size 0 SV.toList from box_range2 hB))
 have RN := fun W (hB : Below ((w.alloc (.cells SV 43)).alloc (.cells #[.int .u64 n0, .int .u64 n1] 72)).heap.size ((w.alloc (.cells SV 43)).alloc (.cells #[.int .u64 n0, .int .u64 n1] 72)) W) i v (h : #[.int .u64 n0, .int .u64 n1][i]? = some v) => (show W.cell? ⟨w.heap.size + 1, i, none⟩ = some v from box_second hB h)
 have B0 := Lib.hid (show Below w.heap.size w ((w.alloc (.cells SV 43)).alloc (.cells #[.int .u64 n0, .int .u64 n1] 72)) from by (repeat' (first|assumption|exact Below.refl _ _|apply Below.next_alloc|apply Below.drew|(apply Below.next;rotate_left;assumption))))
 have Z0 := Lib.hid (show w.heap.size < ((w.alloc (.cells SV 43)).alloc (.cells #[.int .u64 n0, .int .u64 n1] 72)).heap.size by simp; omega)
 generalize ((w.alloc (.cells SV 43)).alloc (.cells #[.int .u64 n0, .int .u64 n1] 72)) = W0 at *
 replace RN := Lib.hid RN
 go_upto_region 4 with (first
  | (refine wpList_load_arr rfl 43 _ rfl w.heap.size 0 rfl SV _ (RS.out _ (by (repeat' (first|assumption|exact Below.refl _ _|apply Below.next_alloc|apply Below.drew|(apply Below.next;rotate_left;assumption))))) Tryz.underlying43 rfl hS.out ?_)
  | (go_at_call 19; (with_reducible refine (FS.out _ (Below.next B0.out (by (repeat' (first|assumption|exact Below.refl _ _|apply Below.next_alloc|apply Below.drew|(apply Below.next;rotate_left;assumption)))))).mono ?_); rintro e w1 ⟨rfl, hB1⟩)
  | (go_at_call 21; (with_reducible refine (FO.out _ (Below.next B0.out (by (repeat' (first|assumption|exact Below.refl _ _|apply Below.next_alloc|apply Below.drew|(apply Below.next;rotate_left;assumption)))))).mono ?_); rintro e w2 ⟨SX, rfl, hSX0, hB2⟩; obtain ⟨hs19, hone⟩ := hX.out _ _ hSX0; have hSX := Lib.hid (show (Tryz.prog.info? 48).map (·.size) = some SX.size by rw [hs19]; exact sizeSet))
  | (refine wpList_store_new rfl 48 _ _ rfl SX w2.heap.size rfl rfl rfl hSX.out (by rw [hs19]; rfl) hone ?_))
 have e4 := Lib.hid (hXc.out _ _ hSX0)
 have RX := fun W (hB : Below (w2.alloc (.cells SX 48)).heap.size (w2.alloc (.cells SX 48)) W) => box_range hB
 have LX := fun W (hB : Below (w2.alloc (.cells SX 48)).heap.size (w2.alloc (.cells SX 48)) W) => XL.out _ _ W hSX0 (Below.next_allocs' hB)
 have CX := fun W (hB : Below (w2.alloc (.cells SX 48)).heap.size (w2.alloc (.cells SX 48)) W) i v (h : SX[i]? = some v) => (show W.cell? ⟨w2.heap.size, i, none⟩ = some v from box_cell hB h)
 have BW1 : Below W0.heap.size W0 (w2.alloc (.cells SX 48)) := by (repeat' (first|assumption|exact Below.refl _ _|apply Below.next_alloc|apply Below.drew|(apply Below.next;rotate_left;assumption)))
 generalize w2.alloc (.cells SX 48) = W1 at *
 replace RX := Lib.hid RX
 replace LX := Lib.hid LX
 replace CX := Lib.hid CX
 have B1 := Lib.hid (Below.next B0.out BW1)
 replace RS := Lib.hid (fun W (hB : Below W1.heap.size W1 W) => RS.out W (Below.next BW1 hB))
 have n4 := CX.out W1 (Below.refl _ _) 4 _ e4.out
 have g0 := RN.out W1 BW1 0 _ rfl
 have g1 := RN.out W1 BW1 1 _ rfl
 have B11 := Lib.hid BW1
 clear RS BW1 hB2 hB1 hone hs19 XL hX FS FO
 clear hXc
 go_wp2_with (first
  | (refine wpList_load_arr rfl 48 _ rfl w2.heap.size 0 rfl SX _ (RX.out _ (by (repeat' (first|assumption|exact Below.refl _ _|apply Below.next_alloc|apply Below.drew|(apply Below.next;rotate_left;assumption))))) Tryz.underlying48 rfl hSX.out ?_)
  | (go_at_call 22; (with_reducible refine (FW.out _ _ (LX.out _ (by (repeat' (first|assumption|exact Below.refl _ _|apply Below.next_alloc|apply Below.drew|(apply Below.next;rotate_left;assumption))))) (Below.next B1.out (by (repeat' (first|assumption|exact Below.refl _ _|apply Below.next_alloc|apply Below.drew|(apply Below.next;rotate_left;assumption)))))).mono ?_); rintro e0 y1 ⟨v1, rfl, hO1, hC1⟩; obtain ⟨p1, c1, hv1⟩ := OwnI.slice hO1; subst hv1; replace hO1 := Lib.hid hO1; clear n4; have n4 := CX.out y1 (by (repeat' (first|assumption|exact Below.refl _ _|apply Below.next_alloc|apply Below.drew|(apply Below.next;rotate_left;assumption)))) 4 _ e4.out)
  | (go_at_call 22; (with_reducible refine (FA.out _ _ (LX.out _ (by (repeat' (first|assumption|exact Below.refl _ _|apply Below.next_alloc|apply Below.drew|(apply Below.next;rotate_left;assumption))))) (Below.next B1.out (by (repeat' (first|assumption|exact Below.refl _ _|apply Below.next_alloc|apply Below.drew|(apply Below.next;rotate_left;assumption)))))).mono ?_); rintro e0 y2 ⟨v2, rfl, hO2, hC2⟩; obtain ⟨p2, c2, hv2⟩ := OwnI.slice hO2; subst hv2; replace hO2 := Lib.hid hO2; clear n4; have n4 := CX.out y2 (by (repeat' (first|assumption|exact Below.refl _ _|apply Below.next_alloc|apply Below.drew|(apply Below.next;rotate_left;assumption)))) 4 _ e4.out)
  | (go_at_call 22; (with_reducible refine (FB.out _ _ (LX.out _ (by (repeat' (first|assumption|exact Below.refl _ _|apply Below.next_alloc|apply Below.drew|(apply Below.next;rotate_left;assumption))))) (Below.next B1.out (by (repeat' (first|assumption|exact Below.refl _ _|apply Below.next_alloc|apply Below.drew|(apply Below.next;rotate_left;assumption)))))).mono ?_); rintro e0 y3 ⟨v3, rfl, hO3, hC3⟩; obtain ⟨p3, c3, hv3⟩ := OwnI.slice hO3; subst hv3; replace hO3 := Lib.hid hO3; clear n4; have n4 := CX.out y3 (by (repeat' (first|assumption|exact Below.refl _ _|apply Below.next_alloc|apply Below.drew|(apply Below.next;rotate_left;assumption)))) 4 _ e4.out)
  | (go_at_call 20; (with_reducible refine (AW.out _ (Below.next B1.out (by (repeat' (first|assumption|exact Below.refl _ _|apply Below.next_alloc|apply Below.drew|(apply Below.next;rotate_left;assumption)))))).mono ?_); rintro e z9 ⟨rfl, hCz⟩))
 go_ret
 exact ⟨rfl, Below.next B1.out (by (repeat' (first|assumption|exact Below.refl _ _|apply Below.next_alloc|apply Below.drew|(apply Below.next;rotate_left;assumption))))⟩
set_option maxHeartbeats 8000000 in
set_option maxRecDepth 100000 in
theorem lpart_two (w : World) (SV : Array Value) (hsz : SV.size = 19) (X : Array Value → World → Prop) (hX : ∀ SX W, X SX W → SX.size = 19 ∧ SX.all (·.oneCell') = true) (XL : ∀ SX W W2, X SX W → Below W.heap.size W W2 → X SX W2)
  (FS : ∀ W, Below w.heap.size w W → Calls Tryz.prog 19 #[.agg SV] W fun e w' => e = .returned (.bool true) ∧ Below W.heap.size W w')
  (FO : ∀ W, Below w.heap.size w W → Calls Tryz.prog 21 #[.agg SV] W fun e w' => ∃ SX, e = .returned (.agg SX) ∧ X SX w' ∧ Below W.heap.size W w')
  (AW : ∀ W, Below w.heap.size w W → Calls Tryz.prog 20 #[] W fun e w' => e = .returned (.bool true) ∧ Below W.heap.size W w')
  (u u1 u2 e2 : Int) (L L1 L2 : List Int) (hXc : ∀ SX W, X SX W → SX[4]? = some (.int .i64 0)) (n0 n1 at_ a r1 b r2 m : Int) (a0 : 0 ≤ a) (a1 : a ≤ 315537897599) (hr0 : 0 ≤ r1) (hr1 : a + r1 ≤ 315537897600) (hb : a + r1 = b) (hq0 : 0 ≤ r2) (hq1 : a + r2 ≤ b) (hm : a + r2 = m)
  (x0 : 0 ≤ n0) (x1 : n0 ≤ 18446744073709551615) (z0 : 0 ≤ n1) (z1 : n1 ≤ 18446744073709551615) (w0 : 0 ≤ at_) (w1 : at_ ≤ 18446744073709551615) (hA : n0 % 315537897600 = a) (hR : n1 % (315537897601 - a) = r1) (hQ : at_ % (b - a + 1) = r2)
  (FW : ∀ SX W, X SX W → Below w.heap.size w W → Calls Tryz.prog 22 #[.agg SX, .int .i64 a, .int .i64 b, .int .i64 4000] W fun r w' => ∃ v, r = .returned (.tuple #[v, .int .i64 u, .int .i64 0]) ∧ OwnI w' W.heap.size v L ∧ Below W.heap.size W w')
  (FA : ∀ SX W, X SX W → Below w.heap.size w W → Calls Tryz.prog 22 #[.agg SX, .int .i64 a, .int .i64 m, .int .i64 4000] W fun r w' => ∃ v, r = .returned (.tuple #[v, .int .i64 u1, .int .i64 0]) ∧ OwnI w' W.heap.size v L1 ∧ Below W.heap.size W w')
  (FB : ∀ SX W, X SX W → Below w.heap.size w W → Calls Tryz.prog 22 #[.agg SX, .int .i64 m, .int .i64 b, .int .i64 4000] W fun r w' => ∃ v, r = .returned (.tuple #[v, .int .i64 u2, .int .i64 e2]) ∧ OwnI w' W.heap.size v L2 ∧ Below W.heap.size W w')
  (he : (e2 != 0) = true) : Calls Tryz.prog 7 #[.agg SV, .agg #[.int .u64 n0, .int .u64 n1], .int .u64 at_] w fun e w' => e = .returned (.bool true) ∧ Below w.heap.size w w' := by
 replace FS := Lib.hid FS
 replace FO := Lib.hid FO
 replace AW := Lib.hid AW
 replace hX := Lib.hid hX
 replace XL := Lib.hid XL
 replace FW := Lib.hid FW
 replace FA := Lib.hid FA
 replace FB := Lib.hid FB
 replace hXc := Lib.hid hXc
 have hS := Lib.hid (show (Tryz.prog.info? 43).map (·.size) = some SV.size by rw [hsz]; exact sizeRSet)
 go_enter Tryz.func7, Tryz.ntmps7
 go_upto_region 1 with fail
 have RS := Lib.hid (fun W (hB : Below ((w.alloc (.cells SV 43)).alloc (.cells #[.int .u64 n0, .int .u64 n1] 72)).heap.size ((w.alloc (.cells SV 43)).alloc (.cells #[.int .u64 n0, .int .u64 n1] 72)) W) => (show W.rangeAt w.heap.size 0 SV.toList from box_range2 hB))
 have RN := fun W (hB : Below ((w.alloc (.cells SV 43)).alloc (.cells #[.int .u64 n0, .int .u64 n1] 72)).heap.size ((w.alloc (.cells SV 43)).alloc (.cells #[.int .u64 n0, .int .u64 n1] 72)) W) i v (h : #[.int .u64 n0, .int .u64 n1][i]? = some v) => (show W.cell? ⟨w.heap.size + 1, i, none⟩ = some v from box_second hB h)
 have B0 := Lib.hid (show Below w.heap.size w ((w.alloc (.cells SV 43)).alloc (.cells #[.int .u64 n0, .int .u64 n1] 72)) from by (repeat' (first|assumption|exact Below.refl _ _|apply Below.next_alloc|apply Below.drew|(apply Below.next;rotate_left;assumption))))
 have Z0 := Lib.hid (show w.heap.size < ((w.alloc (.cells SV 43)).alloc (.cells #[.int .u64 n0, .int .u64 n1] 72)).heap.size by simp; omega)
 generalize ((w.alloc (.cells SV 43)).alloc (.cells #[.int .u64 n0, .int .u64 n1] 72)) = W0 at *
 replace RN := Lib.hid RN
 go_upto_region 4 with (first
  | (refine wpList_load_arr rfl 43 _ rfl w.heap.size 0 rfl SV _ (RS.out _ (by (repeat' (first|assumption|exact Below.refl _ _|apply Below.next_alloc|apply Below.drew|(apply Below.next;rotate_left;assumption))))) Tryz.underlying43 rfl hS.out ?_)
  | (go_at_call 19; (with_reducible refine (FS.out _ (Below.next B0.out (by (repeat' (first|assumption|exact Below.refl _ _|apply Below.next_alloc|apply Below.drew|(apply Below.next;rotate_left;assumption)))))).mono ?_); rintro e w1 ⟨rfl, hB1⟩)
  | (go_at_call 21; (with_reducible refine (FO.out _ (Below.next B0.out (by (repeat' (first|assumption|exact Below.refl _ _|apply Below.next_alloc|apply Below.drew|(apply Below.next;rotate_left;assumption)))))).mono ?_); rintro e w2 ⟨SX, rfl, hSX0, hB2⟩; obtain ⟨hs19, hone⟩ := hX.out _ _ hSX0; have hSX := Lib.hid (show (Tryz.prog.info? 48).map (·.size) = some SX.size by rw [hs19]; exact sizeSet))
  | (refine wpList_store_new rfl 48 _ _ rfl SX w2.heap.size rfl rfl rfl hSX.out (by rw [hs19]; rfl) hone ?_))
 have e4 := Lib.hid (hXc.out _ _ hSX0)
 have RX := fun W (hB : Below (w2.alloc (.cells SX 48)).heap.size (w2.alloc (.cells SX 48)) W) => box_range hB
 have LX := fun W (hB : Below (w2.alloc (.cells SX 48)).heap.size (w2.alloc (.cells SX 48)) W) => XL.out _ _ W hSX0 (Below.next_allocs' hB)
 have CX := fun W (hB : Below (w2.alloc (.cells SX 48)).heap.size (w2.alloc (.cells SX 48)) W) i v (h : SX[i]? = some v) => (show W.cell? ⟨w2.heap.size, i, none⟩ = some v from box_cell hB h)
 have BW1 : Below W0.heap.size W0 (w2.alloc (.cells SX 48)) := by (repeat' (first|assumption|exact Below.refl _ _|apply Below.next_alloc|apply Below.drew|(apply Below.next;rotate_left;assumption)))
 generalize w2.alloc (.cells SX 48) = W1 at *
 replace RX := Lib.hid RX
 replace LX := Lib.hid LX
 replace CX := Lib.hid CX
 have B1 := Lib.hid (Below.next B0.out BW1)
 replace RS := Lib.hid (fun W (hB : Below W1.heap.size W1 W) => RS.out W (Below.next BW1 hB))
 have n4 := CX.out W1 (Below.refl _ _) 4 _ e4.out
 have g0 := RN.out W1 BW1 0 _ rfl
 have g1 := RN.out W1 BW1 1 _ rfl
 have B11 := Lib.hid BW1
 clear RS BW1 hB2 hB1 hone hs19 XL hX FS FO
 clear hXc
 go_wp2_with (first
  | (refine wpList_load_arr rfl 48 _ rfl w2.heap.size 0 rfl SX _ (RX.out _ (by (repeat' (first|assumption|exact Below.refl _ _|apply Below.next_alloc|apply Below.drew|(apply Below.next;rotate_left;assumption))))) Tryz.underlying48 rfl hSX.out ?_)
  | (go_at_call 22; (with_reducible refine (FW.out _ _ (LX.out _ (by (repeat' (first|assumption|exact Below.refl _ _|apply Below.next_alloc|apply Below.drew|(apply Below.next;rotate_left;assumption))))) (Below.next B1.out (by (repeat' (first|assumption|exact Below.refl _ _|apply Below.next_alloc|apply Below.drew|(apply Below.next;rotate_left;assumption)))))).mono ?_); rintro e0 y1 ⟨v1, rfl, hO1, hC1⟩; obtain ⟨p1, c1, hv1⟩ := OwnI.slice hO1; subst hv1; replace hO1 := Lib.hid hO1; clear n4; have n4 := CX.out y1 (by (repeat' (first|assumption|exact Below.refl _ _|apply Below.next_alloc|apply Below.drew|(apply Below.next;rotate_left;assumption)))) 4 _ e4.out)
  | (go_at_call 22; (with_reducible refine (FA.out _ _ (LX.out _ (by (repeat' (first|assumption|exact Below.refl _ _|apply Below.next_alloc|apply Below.drew|(apply Below.next;rotate_left;assumption))))) (Below.next B1.out (by (repeat' (first|assumption|exact Below.refl _ _|apply Below.next_alloc|apply Below.drew|(apply Below.next;rotate_left;assumption)))))).mono ?_); rintro e0 y2 ⟨v2, rfl, hO2, hC2⟩; obtain ⟨p2, c2, hv2⟩ := OwnI.slice hO2; subst hv2; replace hO2 := Lib.hid hO2; clear n4; have n4 := CX.out y2 (by (repeat' (first|assumption|exact Below.refl _ _|apply Below.next_alloc|apply Below.drew|(apply Below.next;rotate_left;assumption)))) 4 _ e4.out)
  | (go_at_call 22; (with_reducible refine (FB.out _ _ (LX.out _ (by (repeat' (first|assumption|exact Below.refl _ _|apply Below.next_alloc|apply Below.drew|(apply Below.next;rotate_left;assumption))))) (Below.next B1.out (by (repeat' (first|assumption|exact Below.refl _ _|apply Below.next_alloc|apply Below.drew|(apply Below.next;rotate_left;assumption)))))).mono ?_); rintro e0 y3 ⟨v3, rfl, hO3, hC3⟩; obtain ⟨p3, c3, hv3⟩ := OwnI.slice hO3; subst hv3; replace hO3 := Lib.hid hO3; clear n4; have n4 := CX.out y3 (by (repeat' (first|assumption|exact Below.refl _ _|apply Below.next_alloc|apply Below.drew|(apply Below.next;rotate_left;assumption)))) 4 _ e4.out)
  | (go_at_call 20; (with_reducible refine (AW.out _ (Below.next B1.out (by (repeat' (first|assumption|exact Below.refl _ _|apply Below.next_alloc|apply Below.drew|(apply Below.next;rotate_left;assumption)))))).mono ?_); rintro e z9 ⟨rfl, hCz⟩))
 go_ret
 exact ⟨rfl, Below.next B1.out (by (repeat' (first|assumption|exact Below.refl _ _|apply Below.next_alloc|apply Below.drew|(apply Below.next;rotate_left;assumption))))⟩
set_option maxHeartbeats 8000000 in
set_option maxRecDepth 100000 in
theorem lpart_none (w : World) (SV : Array Value) (hsz : SV.size = 19) (X : Array Value → World → Prop) (hX : ∀ SX W, X SX W → SX.size = 19 ∧ SX.all (·.oneCell') = true) (XL : ∀ SX W W2, X SX W → Below W.heap.size W W2 → X SX W2)
  (FS : ∀ W, Below w.heap.size w W → Calls Tryz.prog 19 #[.agg SV] W fun e w' => e = .returned (.bool true) ∧ Below W.heap.size W w')
  (FO : ∀ W, Below w.heap.size w W → Calls Tryz.prog 21 #[.agg SV] W fun e w' => ∃ SX, e = .returned (.agg SX) ∧ X SX w' ∧ Below W.heap.size W w')
  (AW : ∀ W, Below w.heap.size w W → Calls Tryz.prog 20 #[] W fun e w' => e = .returned (.bool true) ∧ Below W.heap.size W w')
  (u u1 u2 : Int) (L L1 L2 : List Int) (hXc : ∀ SX W, X SX W → SX[4]? = some (.int .i64 0)) (n0 n1 at_ a r1 b r2 m : Int) (a0 : 0 ≤ a) (a1 : a ≤ 315537897599) (hr0 : 0 ≤ r1) (hr1 : a + r1 ≤ 315537897600) (hb : a + r1 = b) (hq0 : 0 ≤ r2) (hq1 : a + r2 ≤ b) (hm : a + r2 = m)
  (x0 : 0 ≤ n0) (x1 : n0 ≤ 18446744073709551615) (z0 : 0 ≤ n1) (z1 : n1 ≤ 18446744073709551615) (w0 : 0 ≤ at_) (w1 : at_ ≤ 18446744073709551615) (hA : n0 % 315537897600 = a) (hR : n1 % (315537897601 - a) = r1) (hQ : at_ % (b - a + 1) = r2)
  (FW : ∀ SX W, X SX W → Below w.heap.size w W → Calls Tryz.prog 22 #[.agg SX, .int .i64 a, .int .i64 b, .int .i64 4000] W fun r w' => ∃ v, r = .returned (.tuple #[v, .int .i64 u, .int .i64 0]) ∧ OwnI w' W.heap.size v L ∧ Below W.heap.size W w')
  (FA : ∀ SX W, X SX W → Below w.heap.size w W → Calls Tryz.prog 22 #[.agg SX, .int .i64 a, .int .i64 m, .int .i64 4000] W fun r w' => ∃ v, r = .returned (.tuple #[v, .int .i64 u1, .int .i64 0]) ∧ OwnI w' W.heap.size v L1 ∧ Below W.heap.size W w')
  (FB : ∀ SX W, X SX W → Below w.heap.size w W → Calls Tryz.prog 22 #[.agg SX, .int .i64 m, .int .i64 b, .int .i64 4000] W fun r w' => ∃ v, r = .returned (.tuple #[v, .int .i64 u2, .int .i64 0]) ∧ OwnI w' W.heap.size v L2 ∧ Below W.heap.size W w')
  (hLL : L = L1 ++ L2) (hlen : L.length ≤ 100000) (hrise : L.Pairwise (· < ·)) (hin : ∀ x ∈ L, a ≤ x ∧ x < b)
  (S1 : ∀ W v u, Ints W v L → Ints W u L → Calls Tryz.prog 14 #[v, u] W fun e w' => e = .returned (.bool true) ∧ Below W.heap.size W w') : Calls Tryz.prog 7 #[.agg SV, .agg #[.int .u64 n0, .int .u64 n1], .int .u64 at_] w fun e w' => e = .returned (.bool true) ∧ Below w.heap.size w w' := by
 replace FS := Lib.hid FS
 replace FO := Lib.hid FO
 replace AW := Lib.hid AW
 replace hX := Lib.hid hX
 replace XL := Lib.hid XL
 replace FW := Lib.hid FW
 replace FA := Lib.hid FA
 replace FB := Lib.hid FB
 replace hXc := Lib.hid hXc
 replace S1 := Lib.hid S1
 have hS := Lib.hid (show (Tryz.prog.info? 43).map (·.size) = some SV.size by rw [hsz]; exact sizeRSet)
 go_enter Tryz.func7, Tryz.ntmps7
 go_upto_region 1 with fail
 have RS := Lib.hid (fun W (hB : Below ((w.alloc (.cells SV 43)).alloc (.cells #[.int .u64 n0, .int .u64 n1] 72)).heap.size ((w.alloc (.cells SV 43)).alloc (.cells #[.int .u64 n0, .int .u64 n1] 72)) W) => (show W.rangeAt w.heap.size 0 SV.toList from box_range2 hB))
 have RN := fun W (hB : Below ((w.alloc (.cells SV 43)).alloc (.cells #[.int .u64 n0, .int .u64 n1] 72)).heap.size ((w.alloc (.cells SV 43)).alloc (.cells #[.int .u64 n0, .int .u64 n1] 72)) W) i v (h : #[.int .u64 n0, .int .u64 n1][i]? = some v) => (show W.cell? ⟨w.heap.size + 1, i, none⟩ = some v from box_second hB h)
 have B0 := Lib.hid (show Below w.heap.size w ((w.alloc (.cells SV 43)).alloc (.cells #[.int .u64 n0, .int .u64 n1] 72)) from by (repeat' (first|assumption|exact Below.refl _ _|apply Below.next_alloc|apply Below.drew|(apply Below.next;rotate_left;assumption))))
 have Z0 := Lib.hid (show w.heap.size < ((w.alloc (.cells SV 43)).alloc (.cells #[.int .u64 n0, .int .u64 n1] 72)).heap.size by simp; omega)
 generalize ((w.alloc (.cells SV 43)).alloc (.cells #[.int .u64 n0, .int .u64 n1] 72)) = W0 at *
 replace RN := Lib.hid RN
 go_upto_region 4 with (first
  | (refine wpList_load_arr rfl 43 _ rfl w.heap.size 0 rfl SV _ (RS.out _ (by (repeat' (first|assumption|exact Below.refl _ _|apply Below.next_alloc|apply Below.drew|(apply Below.next;rotate_left;assumption))))) Tryz.underlying43 rfl hS.out ?_)
  | (go_at_call 19; (with_reducible refine (FS.out _ (Below.next B0.out (by (repeat' (first|assumption|exact Below.refl _ _|apply Below.next_alloc|apply Below.drew|(apply Below.next;rotate_left;assumption)))))).mono ?_); rintro e w1 ⟨rfl, hB1⟩)
  | (go_at_call 21; (with_reducible refine (FO.out _ (Below.next B0.out (by (repeat' (first|assumption|exact Below.refl _ _|apply Below.next_alloc|apply Below.drew|(apply Below.next;rotate_left;assumption)))))).mono ?_); rintro e w2 ⟨SX, rfl, hSX0, hB2⟩; obtain ⟨hs19, hone⟩ := hX.out _ _ hSX0; have hSX := Lib.hid (show (Tryz.prog.info? 48).map (·.size) = some SX.size by rw [hs19]; exact sizeSet))
  | (refine wpList_store_new rfl 48 _ _ rfl SX w2.heap.size rfl rfl rfl hSX.out (by rw [hs19]; rfl) hone ?_))
 have e4 := Lib.hid (hXc.out _ _ hSX0)
 have RX := fun W (hB : Below (w2.alloc (.cells SX 48)).heap.size (w2.alloc (.cells SX 48)) W) => box_range hB
 have LX := fun W (hB : Below (w2.alloc (.cells SX 48)).heap.size (w2.alloc (.cells SX 48)) W) => XL.out _ _ W hSX0 (Below.next_allocs' hB)
 have CX := fun W (hB : Below (w2.alloc (.cells SX 48)).heap.size (w2.alloc (.cells SX 48)) W) i v (h : SX[i]? = some v) => (show W.cell? ⟨w2.heap.size, i, none⟩ = some v from box_cell hB h)
 have BW1 : Below W0.heap.size W0 (w2.alloc (.cells SX 48)) := by (repeat' (first|assumption|exact Below.refl _ _|apply Below.next_alloc|apply Below.drew|(apply Below.next;rotate_left;assumption)))
 generalize w2.alloc (.cells SX 48) = W1 at *
 replace RX := Lib.hid RX
 replace LX := Lib.hid LX
 replace CX := Lib.hid CX
 have B1 := Lib.hid (Below.next B0.out BW1)
 replace RS := Lib.hid (fun W (hB : Below W1.heap.size W1 W) => RS.out W (Below.next BW1 hB))
 have n4 := CX.out W1 (Below.refl _ _) 4 _ e4.out
 have g0 := RN.out W1 BW1 0 _ rfl
 have g1 := RN.out W1 BW1 1 _ rfl
 have B11 := Lib.hid BW1
 clear RS BW1 hB2 hB1 hone hs19 XL hX FS FO
 clear hXc
 replace hrise := Lib.hid hrise
 replace hin := Lib.hid hin
 replace hLL := Lib.hid hLL
 go_wp2_with (first
  | (refine wpList_load_arr rfl 48 _ rfl w2.heap.size 0 rfl SX _ (RX.out _ (by (repeat' (first|assumption|exact Below.refl _ _|apply Below.next_alloc|apply Below.drew|(apply Below.next;rotate_left;assumption))))) Tryz.underlying48 rfl hSX.out ?_)
  | (go_at_call 22; (with_reducible refine (FW.out _ _ (LX.out _ (by (repeat' (first|assumption|exact Below.refl _ _|apply Below.next_alloc|apply Below.drew|(apply Below.next;rotate_left;assumption))))) (Below.next B1.out (by (repeat' (first|assumption|exact Below.refl _ _|apply Below.next_alloc|apply Below.drew|(apply Below.next;rotate_left;assumption)))))).mono ?_); rintro e0 y1 ⟨v1, rfl, hO1, hC1⟩; obtain ⟨p1, c1, hv1⟩ := OwnI.slice hO1; subst hv1; replace hO1 := Lib.hid hO1; clear n4; have n4 := CX.out y1 (by (repeat' (first|assumption|exact Below.refl _ _|apply Below.next_alloc|apply Below.drew|(apply Below.next;rotate_left;assumption)))) 4 _ e4.out)
  | (go_at_call 22; (with_reducible refine (FA.out _ _ (LX.out _ (by (repeat' (first|assumption|exact Below.refl _ _|apply Below.next_alloc|apply Below.drew|(apply Below.next;rotate_left;assumption))))) (Below.next B1.out (by (repeat' (first|assumption|exact Below.refl _ _|apply Below.next_alloc|apply Below.drew|(apply Below.next;rotate_left;assumption)))))).mono ?_); rintro e0 y2 ⟨v2, rfl, hO2, hC2⟩; obtain ⟨p2, c2, hv2⟩ := OwnI.slice hO2; subst hv2; replace hO2 := Lib.hid hO2; clear n4; have n4 := CX.out y2 (by (repeat' (first|assumption|exact Below.refl _ _|apply Below.next_alloc|apply Below.drew|(apply Below.next;rotate_left;assumption)))) 4 _ e4.out)
  | (go_at_call 22; (with_reducible refine (FB.out _ _ (LX.out _ (by (repeat' (first|assumption|exact Below.refl _ _|apply Below.next_alloc|apply Below.drew|(apply Below.next;rotate_left;assumption))))) (Below.next B1.out (by (repeat' (first|assumption|exact Below.refl _ _|apply Below.next_alloc|apply Below.drew|(apply Below.next;rotate_left;assumption)))))).mono ?_); rintro e0 y3 ⟨v3, rfl, hO3, hC3⟩; obtain ⟨p3, c3, hv3⟩ := OwnI.slice hO3; subst hv3; replace hO3 := Lib.hid hO3; clear n4; have n4 := CX.out y3 (by (repeat' (first|assumption|exact Below.refl _ _|apply Below.next_alloc|apply Below.drew|(apply Below.next;rotate_left;assumption)))) 4 _ e4.out)
  | (go_at_call 20; (with_reducible refine (AW.out _ (Below.next B1.out (by (repeat' (first|assumption|exact Below.refl _ _|apply Below.next_alloc|apply Below.drew|(apply Below.next;rotate_left;assumption)))))).mono ?_); rintro e z9 ⟨rfl, hCz⟩))
 have BB := Below.next (Below.next hC1 hC2) hC3
 have hOL := hO1.out.below (Below.next hC2 hC3)
 have hO2L := Lib.hid (hO2.out.below hC3)
 have hAt := Lib.hid (fun k (hk : k < L.length) => own_at hOL (Below.refl _ _) hk)
 replace hOL := Lib.hid hOL
 replace BB := Lib.hid (Below.next B1.out BB)
 have CY := Lib.hid (fun W (hW : Below y3.heap.size y3 W) => CX.out W (Below.next (Below.next (Below.next hC1 hC2) hC3) hW) 4 _ e4.out)
 clear hC1 hC2 hC3 hO1 hO2 CX
 have hst := Lib.hid (show ∀ h : 0 < L.length, a - 1 < L[0] from fun h => by have := hin.out _ (List.getElem_mem h); omega)
 have hnx := Lib.hid (fun (k : Nat) (h : k < L.length) => (show (a ≤ L[k] ∧ L[k] < b) ∧ ∀ h2 : k + 1 < L.length, L[k] < L[k + 1] from ⟨hin.out _ (List.getElem_mem h), fun h2 => List.pairwise_iff_getElem.1 hrise.out k (k + 1) h h2 (by omega)⟩))
 go_loop [20, 21] (fun vl vi => ∃ (k : Nat) (la : Int), k ≤ L.length ∧ vi = .int .i64 k ∧ vl = .int .i64 la ∧ a - 1 ≤ la ∧ la ≤ b ∧ Hid (∀ h : k < L.length, la < L[k])) (fun vl vi => L.length - (intOf vi).toNat)
 case atStart => exact ⟨0, a - 1, by omega, rfl, rfl, by omega, by omega, hst⟩
 case round =>
  obtain ⟨k, la, hk, rfl, rfl, hla1, hla2, hlt2⟩ := hrel
  by_cases hlt : k < L.length
  ·obtain ⟨g, rfl, hg1, hg2, hg3⟩ := hAt.out k hlt
   have hy := hlt2.out hlt
   obtain ⟨⟨hy1, hy2⟩, hy3⟩ := hnx.out k hlt
   generalize L[k] = y at *
   replace hy3 := Lib.hid hy3
   go_wp2
   go_round
   case rel => exact ⟨k + 1, y, by omega, by go_num, rfl, by omega, by omega, hy3⟩
   case measure => simp [intOf]; omega
  ·clear hst hnx hAt hlt2
   have hl1 : L1.length ≤ 100000 := by have := hLL.out; rw [this, List.length_append] at hlen; omega
   have hl2 : L2.length ≤ 100000 := by have := hLL.out; rw [this, List.length_append] at hlen; omega
   go_wp2_with (first
    | (at_builtin; refine push_list rfl _ _ rfl y3.heap.size (.slice none 0 0) [] rfl (OwnI.nil _ _) _ _ L1 rfl hO2L.out (by simp; omega) (Nat.le_refl _) ?_; intro v5 w5 hO5 hC5; replace hO5 := Lib.hid hO5; have hS5 := Lib.hid hC5.size)
    | (at_builtin; refine push_list rfl _ _ rfl y3.heap.size _ ([] ++ L1) rfl hO5.out _ _ L2 rfl (hO3.out.below hC5) (by simp; omega) hS5.out ?_; intro v7 w7 hO7 hC7; have hI7 := Lib.hid (show Ints w7 v7 L by rw [hLL.out]; simpa using hO7.ints); have hC57 := Lib.hid (hC5.trans hC7); have n4 := CY.out w7 hC57.out)
    | (go_at_call 14; (with_reducible refine (S1.out _ _ _ (hOL.out.below hC57.out).ints hI7.out).mono ?_); rintro e0 y8 ⟨rfl, hC8⟩; have n5 := CY.out y8 (hC57.out.trans (hC8.mono hC57.out.size)); have BF := Lib.hid (Below.next (Below.next BB.out hC57.out) hC8))
    | (go_at_call 20; (with_reducible refine (AW.out _ BF.out).mono ?_); rintro e0 z9 ⟨rfl, hCz⟩))
   go_ret
   exact ⟨rfl, Below.next BF.out hCz⟩
set_option maxHeartbeats 8000000 in
set_option maxRecDepth 100000 in
theorem lpart_some (w : World) (SV : Array Value) (hsz : SV.size = 19) (X : Array Value → World → Prop) (hX : ∀ SX W, X SX W → SX.size = 19 ∧ SX.all (·.oneCell') = true) (XL : ∀ SX W W2, X SX W → Below W.heap.size W W2 → X SX W2)
  (FS : ∀ W, Below w.heap.size w W → Calls Tryz.prog 19 #[.agg SV] W fun e w' => e = .returned (.bool true) ∧ Below W.heap.size W w')
  (FO : ∀ W, Below w.heap.size w W → Calls Tryz.prog 21 #[.agg SV] W fun e w' => ∃ SX, e = .returned (.agg SX) ∧ X SX w' ∧ Below W.heap.size W w')
  (AW : ∀ W, Below w.heap.size w W → Calls Tryz.prog 20 #[] W fun e w' => e = .returned (.bool true) ∧ Below W.heap.size W w')
  (u u1 u2 count : Int) (L L1 L2 : List Int) (hXc : ∀ SX W, X SX W → SX[4]? = some (.int .i64 count)) (n0 n1 at_ a r1 b r2 m : Int) (a0 : 0 ≤ a) (a1 : a ≤ 315537897599) (hr0 : 0 ≤ r1) (hr1 : a + r1 ≤ 315537897600) (hb : a + r1 = b) (hq0 : 0 ≤ r2) (hq1 : a + r2 ≤ b) (hm : a + r2 = m)
  (x0 : 0 ≤ n0) (x1 : n0 ≤ 18446744073709551615) (z0 : 0 ≤ n1) (z1 : n1 ≤ 18446744073709551615) (w0 : 0 ≤ at_) (w1 : at_ ≤ 18446744073709551615) (hA : n0 % 315537897600 = a) (hR : n1 % (315537897601 - a) = r1) (hQ : at_ % (b - a + 1) = r2)
  (FW : ∀ SX W, X SX W → Below w.heap.size w W → Calls Tryz.prog 22 #[.agg SX, .int .i64 a, .int .i64 b, .int .i64 4000] W fun r w' => ∃ v, r = .returned (.tuple #[v, .int .i64 u, .int .i64 0]) ∧ OwnI w' W.heap.size v L ∧ Below W.heap.size W w')
  (FA : ∀ SX W, X SX W → Below w.heap.size w W → Calls Tryz.prog 22 #[.agg SX, .int .i64 a, .int .i64 m, .int .i64 4000] W fun r w' => ∃ v, r = .returned (.tuple #[v, .int .i64 u1, .int .i64 0]) ∧ OwnI w' W.heap.size v L1 ∧ Below W.heap.size W w')
  (FB : ∀ SX W, X SX W → Below w.heap.size w W → Calls Tryz.prog 22 #[.agg SX, .int .i64 m, .int .i64 b, .int .i64 4000] W fun r w' => ∃ v, r = .returned (.tuple #[v, .int .i64 u2, .int .i64 0]) ∧ OwnI w' W.heap.size v L2 ∧ Below W.heap.size W w')
  (hc : (count == 0) = false) (hu1 : u1 ≤ u) (hu2 : u2 ≤ u) (hLL : L = L1 ++ L2) (hlen : L.length ≤ 100000) (hrise : L.Pairwise (· < ·)) (hin : ∀ x ∈ L, a ≤ x ∧ x < b)
  (S1 : ∀ W v u, Ints W v L → Ints W u L → Calls Tryz.prog 14 #[v, u] W fun e w' => e = .returned (.bool true) ∧ Below W.heap.size W w') : Calls Tryz.prog 7 #[.agg SV, .agg #[.int .u64 n0, .int .u64 n1], .int .u64 at_] w fun e w' => e = .returned (.bool true) ∧ Below w.heap.size w w' := by
 replace FS := Lib.hid FS
 replace FO := Lib.hid FO
 replace AW := Lib.hid AW
 replace hX := Lib.hid hX
 replace XL := Lib.hid XL
 replace FW := Lib.hid FW
 replace FA := Lib.hid FA
 replace FB := Lib.hid FB
 replace hXc := Lib.hid hXc
 replace S1 := Lib.hid S1
 have hS := Lib.hid (show (Tryz.prog.info? 43).map (·.size) = some SV.size by rw [hsz]; exact sizeRSet)
 go_enter Tryz.func7, Tryz.ntmps7
 go_upto_region 1 with fail
 have RS := Lib.hid (fun W (hB : Below ((w.alloc (.cells SV 43)).alloc (.cells #[.int .u64 n0, .int .u64 n1] 72)).heap.size ((w.alloc (.cells SV 43)).alloc (.cells #[.int .u64 n0, .int .u64 n1] 72)) W) => (show W.rangeAt w.heap.size 0 SV.toList from box_range2 hB))
 have RN := fun W (hB : Below ((w.alloc (.cells SV 43)).alloc (.cells #[.int .u64 n0, .int .u64 n1] 72)).heap.size ((w.alloc (.cells SV 43)).alloc (.cells #[.int .u64 n0, .int .u64 n1] 72)) W) i v (h : #[.int .u64 n0, .int .u64 n1][i]? = some v) => (show W.cell? ⟨w.heap.size + 1, i, none⟩ = some v from box_second hB h)
 have B0 := Lib.hid (show Below w.heap.size w ((w.alloc (.cells SV 43)).alloc (.cells #[.int .u64 n0, .int .u64 n1] 72)) from by (repeat' (first|assumption|exact Below.refl _ _|apply Below.next_alloc|apply Below.drew|(apply Below.next;rotate_left;assumption))))
 have Z0 := Lib.hid (show w.heap.size < ((w.alloc (.cells SV 43)).alloc (.cells #[.int .u64 n0, .int .u64 n1] 72)).heap.size by simp; omega)
 generalize ((w.alloc (.cells SV 43)).alloc (.cells #[.int .u64 n0, .int .u64 n1] 72)) = W0 at *
 replace RN := Lib.hid RN
 go_upto_region 4 with (first
  | (refine wpList_load_arr rfl 43 _ rfl w.heap.size 0 rfl SV _ (RS.out _ (by (repeat' (first|assumption|exact Below.refl _ _|apply Below.next_alloc|apply Below.drew|(apply Below.next;rotate_left;assumption))))) Tryz.underlying43 rfl hS.out ?_)
  | (go_at_call 19; (with_reducible refine (FS.out _ (Below.next B0.out (by (repeat' (first|assumption|exact Below.refl _ _|apply Below.next_alloc|apply Below.drew|(apply Below.next;rotate_left;assumption)))))).mono ?_); rintro e w1 ⟨rfl, hB1⟩)
  | (go_at_call 21; (with_reducible refine (FO.out _ (Below.next B0.out (by (repeat' (first|assumption|exact Below.refl _ _|apply Below.next_alloc|apply Below.drew|(apply Below.next;rotate_left;assumption)))))).mono ?_); rintro e w2 ⟨SX, rfl, hSX0, hB2⟩; obtain ⟨hs19, hone⟩ := hX.out _ _ hSX0; have hSX := Lib.hid (show (Tryz.prog.info? 48).map (·.size) = some SX.size by rw [hs19]; exact sizeSet))
  | (refine wpList_store_new rfl 48 _ _ rfl SX w2.heap.size rfl rfl rfl hSX.out (by rw [hs19]; rfl) hone ?_))
 have e4 := Lib.hid (hXc.out _ _ hSX0)
 have RX := fun W (hB : Below (w2.alloc (.cells SX 48)).heap.size (w2.alloc (.cells SX 48)) W) => box_range hB
 have LX := fun W (hB : Below (w2.alloc (.cells SX 48)).heap.size (w2.alloc (.cells SX 48)) W) => XL.out _ _ W hSX0 (Below.next_allocs' hB)
 have CX := fun W (hB : Below (w2.alloc (.cells SX 48)).heap.size (w2.alloc (.cells SX 48)) W) i v (h : SX[i]? = some v) => (show W.cell? ⟨w2.heap.size, i, none⟩ = some v from box_cell hB h)
 have BW1 : Below W0.heap.size W0 (w2.alloc (.cells SX 48)) := by (repeat' (first|assumption|exact Below.refl _ _|apply Below.next_alloc|apply Below.drew|(apply Below.next;rotate_left;assumption)))
 generalize w2.alloc (.cells SX 48) = W1 at *
 replace RX := Lib.hid RX
 replace LX := Lib.hid LX
 replace CX := Lib.hid CX
 have B1 := Lib.hid (Below.next B0.out BW1)
 replace RS := Lib.hid (fun W (hB : Below W1.heap.size W1 W) => RS.out W (Below.next BW1 hB))
 have n4 := CX.out W1 (Below.refl _ _) 4 _ e4.out
 have g0 := RN.out W1 BW1 0 _ rfl
 have g1 := RN.out W1 BW1 1 _ rfl
 have B11 := Lib.hid BW1
 clear RS BW1 hB2 hB1 hone hs19 XL hX FS FO
 clear hXc
 replace hrise := Lib.hid hrise
 replace hin := Lib.hid hin
 replace hLL := Lib.hid hLL
 go_wp2_with (first
  | (refine wpList_load_arr rfl 48 _ rfl w2.heap.size 0 rfl SX _ (RX.out _ (by (repeat' (first|assumption|exact Below.refl _ _|apply Below.next_alloc|apply Below.drew|(apply Below.next;rotate_left;assumption))))) Tryz.underlying48 rfl hSX.out ?_)
  | (go_at_call 22; (with_reducible refine (FW.out _ _ (LX.out _ (by (repeat' (first|assumption|exact Below.refl _ _|apply Below.next_alloc|apply Below.drew|(apply Below.next;rotate_left;assumption))))) (Below.next B1.out (by (repeat' (first|assumption|exact Below.refl _ _|apply Below.next_alloc|apply Below.drew|(apply Below.next;rotate_left;assumption)))))).mono ?_); rintro e0 y1 ⟨v1, rfl, hO1, hC1⟩; obtain ⟨p1, c1, hv1⟩ := OwnI.slice hO1; subst hv1; replace hO1 := Lib.hid hO1; clear n4; have n4 := CX.out y1 (by (repeat' (first|assumption|exact Below.refl _ _|apply Below.next_alloc|apply Below.drew|(apply Below.next;rotate_left;assumption)))) 4 _ e4.out)
  | (go_at_call 22; (with_reducible refine (FA.out _ _ (LX.out _ (by (repeat' (first|assumption|exact Below.refl _ _|apply Below.next_alloc|apply Below.drew|(apply Below.next;rotate_left;assumption))))) (Below.next B1.out (by (repeat' (first|assumption|exact Below.refl _ _|apply Below.next_alloc|apply Below.drew|(apply Below.next;rotate_left;assumption)))))).mono ?_); rintro e0 y2 ⟨v2, rfl, hO2, hC2⟩; obtain ⟨p2, c2, hv2⟩ := OwnI.slice hO2; subst hv2; replace hO2 := Lib.hid hO2; clear n4; have n4 := CX.out y2 (by (repeat' (first|assumption|exact Below.refl _ _|apply Below.next_alloc|apply Below.drew|(apply Below.next;rotate_left;assumption)))) 4 _ e4.out)
  | (go_at_call 22; (with_reducible refine (FB.out _ _ (LX.out _ (by (repeat' (first|assumption|exact Below.refl _ _|apply Below.next_alloc|apply Below.drew|(apply Below.next;rotate_left;assumption))))) (Below.next B1.out (by (repeat' (first|assumption|exact Below.refl _ _|apply Below.next_alloc|apply Below.drew|(apply Below.next;rotate_left;assumption)))))).mono ?_); rintro e0 y3 ⟨v3, rfl, hO3, hC3⟩; obtain ⟨p3, c3, hv3⟩ := OwnI.slice hO3; subst hv3; replace hO3 := Lib.hid hO3; clear n4; have n4 := CX.out y3 (by (repeat' (first|assumption|exact Below.refl _ _|apply Below.next_alloc|apply Below.drew|(apply Below.next;rotate_left;assumption)))) 4 _ e4.out)
  | (go_at_call 20; (with_reducible refine (AW.out _ (Below.next B1.out (by (repeat' (first|assumption|exact Below.refl _ _|apply Below.next_alloc|apply Below.drew|(apply Below.next;rotate_left;assumption)))))).mono ?_); rintro e z9 ⟨rfl, hCz⟩))
 have BB := Below.next (Below.next hC1 hC2) hC3
 have hOL := hO1.out.below (Below.next hC2 hC3)
 have hO2L := Lib.hid (hO2.out.below hC3)
 have hAt := Lib.hid (fun k (hk : k < L.length) => own_at hOL (Below.refl _ _) hk)
 replace hOL := Lib.hid hOL
 replace BB := Lib.hid (Below.next B1.out BB)
 have CY := Lib.hid (fun W (hW : Below y3.heap.size y3 W) => CX.out W (Below.next (Below.next (Below.next hC1 hC2) hC3) hW) 4 _ e4.out)
 clear hC1 hC2 hC3 hO1 hO2 CX
 have hst := Lib.hid (show ∀ h : 0 < L.length, a - 1 < L[0] from fun h => by have := hin.out _ (List.getElem_mem h); omega)
 have hnx := Lib.hid (fun (k : Nat) (h : k < L.length) => (show (a ≤ L[k] ∧ L[k] < b) ∧ ∀ h2 : k + 1 < L.length, L[k] < L[k + 1] from ⟨hin.out _ (List.getElem_mem h), fun h2 => List.pairwise_iff_getElem.1 hrise.out k (k + 1) h h2 (by omega)⟩))
 go_loop [20, 21] (fun vl vi => ∃ (k : Nat) (la : Int), k ≤ L.length ∧ vi = .int .i64 k ∧ vl = .int .i64 la ∧ a - 1 ≤ la ∧ la ≤ b ∧ Hid (∀ h : k < L.length, la < L[k])) (fun vl vi => L.length - (intOf vi).toNat)
 case atStart => exact ⟨0, a - 1, by omega, rfl, rfl, by omega, by omega, hst⟩
 case round =>
  obtain ⟨k, la, hk, rfl, rfl, hla1, hla2, hlt2⟩ := hrel
  by_cases hlt : k < L.length
  ·obtain ⟨g, rfl, hg1, hg2, hg3⟩ := hAt.out k hlt
   have hy := hlt2.out hlt
   obtain ⟨⟨hy1, hy2⟩, hy3⟩ := hnx.out k hlt
   generalize L[k] = y at *
   replace hy3 := Lib.hid hy3
   go_wp2
   go_round
   case rel => exact ⟨k + 1, y, by omega, by go_num, rfl, by omega, by omega, hy3⟩
   case measure => simp [intOf]; omega
  ·clear hst hnx hAt hlt2
   have hl1 : L1.length ≤ 100000 := by have := hLL.out; rw [this, List.length_append] at hlen; omega
   have hl2 : L2.length ≤ 100000 := by have := hLL.out; rw [this, List.length_append] at hlen; omega
   go_wp2_with (first
    | (at_builtin; refine push_list rfl _ _ rfl y3.heap.size (.slice none 0 0) [] rfl (OwnI.nil _ _) _ _ L1 rfl hO2L.out (by simp; omega) (Nat.le_refl _) ?_; intro v5 w5 hO5 hC5; replace hO5 := Lib.hid hO5; have hS5 := Lib.hid hC5.size)
    | (at_builtin; refine push_list rfl _ _ rfl y3.heap.size _ ([] ++ L1) rfl hO5.out _ _ L2 rfl (hO3.out.below hC5) (by simp; omega) hS5.out ?_; intro v7 w7 hO7 hC7; have hI7 := Lib.hid (show Ints w7 v7 L by rw [hLL.out]; simpa using hO7.ints); have hC57 := Lib.hid (hC5.trans hC7); have n4 := CY.out w7 hC57.out)
    | (go_at_call 14; (with_reducible refine (S1.out _ _ _ (hOL.out.below hC57.out).ints hI7.out).mono ?_); rintro e0 y8 ⟨rfl, hC8⟩; have n5 := CY.out y8 (hC57.out.trans (hC8.mono hC57.out.size)); have BF := Lib.hid (Below.next (Below.next BB.out hC57.out) hC8))
    | (go_at_call 20; (with_reducible refine (AW.out _ BF.out).mono ?_); rintro e0 z9 ⟨rfl, hCz⟩))
   go_ret
   exact ⟨rfl, Below.next BF.out hCz⟩
end Go.Proofs.YtkbohijlhhpfbaaGreatDoor.Rs
