/- The walk through errandlaw31's awake (printed by gen_awake.py). -/
import Derived.Test.YthelkkbjflohgaaHi
namespace Go.Proofs.Ythelkkbjflohgaa.Ds
open Go.RowKit Ut Gr Go.Maps
set_option maxHeartbeats 8000000 in
set_option maxRecDepth 100000 in
theorem awake_any (w : World) : Calls Try.prog 8 #[] w fun e w' => e = .returned (.bool true) ∧ Below w.heap.size w w' := by
  go_enter Try.func8, Try.ntmps8
  go_wp2_with (first
    | (go_at_call 21; (with_reducible refine (aw_add1 (edgs2 w _ _ _ _ _)).mono ?_); rintro e w1 ⟨a1, c1, rfl, hB1⟩; have b1 := Lib.hid (next_allocs hB1); have L1 := Lib.hid ((edgs2 w _ _ _ _ _).below hB1); clear hB1)
    | (go_at_call 21; (with_reducible refine (aw_add2 L1.out).mono ?_); rintro e w2 ⟨a2, c2, rfl, hE, hB⟩; have b2 := Lib.hid (Below.next b1.out hB); have L2 := Lib.hid (L1.out.below hB); have N2 := Lib.hid hE; clear L1 b1 hB hE)
    | (go_at_call 10; (with_reducible refine (aw_ord1 (N2.out.below (Below.next_alloc (Below.refl _ _) _)) (strs3 w2 _ _ _ _)).mono ?_); rintro e w3 ⟨x3, rfl, hS, hB⟩; have b3 := Lib.hid (Below.next b2.out (next_allocs hB)); have L3 := Lib.hid (L2.out.below (next_allocs hB)); have N3 := Lib.hid (N2.out.below (next_allocs hB)); have O3 := Lib.hid hS; clear L2 N2 b2 hB hS)
    | (go_at_call 23; (with_reducible refine (aw_drop1 N3.out).mono ?_); rintro e w4 ⟨a4, c4, rfl, hB⟩; have b4 := Lib.hid (Below.next b3.out hB); have L4 := Lib.hid (L3.out.below hB); have N4 := Lib.hid (N3.out.below hB); have O4 := Lib.hid (O3.out.below hB); clear L3 N3 O3 b3 hB)
    | (go_at_call 23; (with_reducible refine (aw_drop2 L4.out).mono ?_); rintro e w5 ⟨a5, c5, rfl, hB⟩; have b5 := Lib.hid (Below.next b4.out hB); have L5 := Lib.hid (L4.out.below hB); have N5 := Lib.hid (N4.out.below hB); have O5 := Lib.hid (O4.out.below hB); clear L4 N4 O4 b4 hB)
    | (go_at_call 10; (with_reducible refine (aw_ord3 w5 _ _).mono ?_); rintro e w6 ⟨x6, rfl, -, hB⟩; have hB := next_allocs (next_allocs hB); have b6 := Lib.hid (Below.next b5.out hB); have L6 := Lib.hid (L5.out.below hB); have N6 := Lib.hid (N5.out.below hB); have O6 := Lib.hid (O5.out.below hB); clear L5 N5 O5 b5 hB)
    | (go_at_call 12; (with_reducible refine (aw_same (O6.out.below (Below.next_alloc (Below.refl _ _) _)) (strs3 w6 _ _ _ _) (by decide)).mono ?_); rintro e w7 ⟨rfl, hB⟩; have hB := next_allocs hB; have b7 := Lib.hid (Below.next b6.out hB); have L7 := Lib.hid (L6.out.below hB); have N7 := Lib.hid (N6.out.below hB); clear L6 N6 O6 b6 hB)
    | (go_at_call 13; (with_reducible refine (aw_reach1 L7.out).mono ?_); rintro e w8 ⟨rfl, hB⟩; have b8 := Lib.hid (Below.next b7.out hB); have L8 := Lib.hid (L7.out.below hB); have N8 := Lib.hid (N7.out.below hB); clear L7 N7 b7 hB)
    | (go_at_call 13; (with_reducible refine (aw_reach2 L8.out).mono ?_); rintro e w9 ⟨rfl, hB⟩; have b9 := Lib.hid (Below.next b8.out hB); have L9 := Lib.hid (L8.out.below hB); have N9 := Lib.hid (N8.out.below hB); clear L8 N8 b8 hB)
    | (go_at_call 15; (with_reducible refine (aw_acy L9.out).mono ?_); rintro e y0 ⟨rfl, hB⟩; have d0 := Lib.hid (Below.next b9.out hB); have M0 := Lib.hid (N9.out.below hB); clear L9 N9 b9 hB)
    | (go_at_call 17; (with_reducible refine (aw_of M0.out).mono ?_); rintro e y1 ⟨x1, rfl, hS, hB⟩; have d1 := Lib.hid (Below.next d0.out hB); have M1 := Lib.hid (M0.out.below hB); have S1 := Lib.hid hS; clear M0 d0 hB hS)
    | (go_at_call 12; (with_reducible refine (aw_same (S1.out.below (Below.next_alloc (Below.refl _ _) _)) (strs2 y1 _ _ _) (by decide)).mono ?_); rintro e y2 ⟨rfl, hB⟩; have hB := next_allocs hB; have d2 := Lib.hid (Below.next d1.out hB); have M2 := Lib.hid (M1.out.below hB); clear M1 S1 d1 hB)
    | (go_at_call 19; (with_reducible refine (aw_on M2.out).mono ?_); rintro e y3 ⟨x3, rfl, hS, hB⟩; have d3 := Lib.hid (Below.next d2.out hB); have S3 := Lib.hid hS; clear M2 d2 hB hS)
    | (go_at_call 12; (with_reducible refine (aw_same (S3.out.below (Below.next_alloc (Below.refl _ _) _)) (strs2 y3 _ _ _) (by decide)).mono ?_); rintro e y4 ⟨rfl, hB⟩; have hB := next_allocs hB; have d4 := Lib.hid (Below.next d3.out hB); clear S3 d3 hB))
  go_ret
  exact ⟨rfl, d4.out⟩
end Go.Proofs.Ythelkkbjflohgaa.Ds
