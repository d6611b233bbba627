/- The walk through DueixParts. -/
import Derived.Test.YtncneoggnoiknaaLx
namespace Go.Proofs.Ytncneoggnoiknaa.Du
open Go.RowKit Sp Ut Me
set_option maxHeartbeats 8000000 in
set_option maxRecDepth 100000 in
theorem parts_any {w : World} {v : Value} {l : List E} (a b c : Int) (hl : Ents w v l) : Calls Try.prog 6 #[v, .agg #[.int .i64 a, .int .i64 b, .int .i64 c]] w fun e w' => e = .returned (.bool true) ∧ Below w.heap.size w w' := by
  obtain ⟨va, vc, rfl⟩ := hl.slice
  by_cases h0 : l.length ≤ 60
  · by_cases h1 : a ≤ b
    · by_cases h2 : b ≤ c
      · have HL := Lib.hid hl
        have hg : (l.length : Int) ≤ 60 := by omega
        obtain ⟨W0, hW0⟩ : ∃ W0, W0 = w.alloc (.cells #[.int .i64 a, .int .i64 b, .int .i64 c] 51) := ⟨_, rfl⟩
        have hB0 : Below w.heap.size w W0 := by rw [hW0]; exact (Below.refl _ w).alloc (Nat.le_refl _) _
        have hbb := boxed3 (Below.refl (w.alloc (.cells #[.int .i64 a, .int .i64 b, .int .i64 c] 51)).heap.size (w.alloc (.cells #[.int .i64 a, .int .i64 b, .int .i64 c] 51)))
        rw [← hW0] at hbb
        obtain ⟨z0, d0, d1, d2⟩ := hbb
        have HB0 := Lib.hid hB0
        have HD := Lib.hid (And.intro d0 (And.intro d1 d2))
        have HW0 := Lib.hid hW0
        clear hl hB0 d0 d1 d2 hW0
        go_enter Try.func6, Try.ntmps6
        go_wp2_with (go_at_call 9; (with_reducible refine (newH _).mono ?_); rintro e w1 ⟨p, O0, rfl, hI0, hO0, hB1⟩)
        rw [← HW0.out] at hO0 hB1
        have I0 := Lib.hid hI0
        have P0 := Lib.hid hO0
        have B1 := Lib.hid hB1
        clear hI0 hO0 hB1
        go_loopw [6] (fun q wr => ∃ (k : Nat) (O : Nat → Prop), k ≤ l.length ∧ q = .int .i64 k ∧ Hid (Has wr p O (puts (l.take k))) ∧ Hid (∀ j, O j → W0.heap.size ≤ j) ∧ Hid (Below W0.heap.size W0 wr)) (fun q _ => l.length - (intOf q).toNat)
        case atStart => exact ⟨0, O0, by omega, rfl, I0, P0, B1⟩
        case round =>
          obtain ⟨k, O, hk1, rfl, hI, hO, hB⟩ := hrel
          have hsz := hB.out.size
          obtain ⟨ps1, ps2, ps3⟩ := puts_spec (l.take k)
          have hpl : (puts (l.take k)).length ≤ 1000 := by rw [List.length_take] at ps3; omega
          clear ps1 ps2 ps3
          by_cases hk : k < l.length
          · rcases HL.out with ⟨hnil, _⟩ | ⟨hpos, bb, oo, cc, hvv, hlt, hcc, hcell⟩
            · rw [hnil] at hk; simp at hk
            · cases hvv
              obtain ⟨c1, c2⟩ := hcell k hk
              have hpt := puts_take hk
              obtain ⟨x, s, hxs⟩ : ∃ x s, l[k] = (x, s) := ⟨_, _, rfl⟩
              rw [hxs] at c1 c2 hpt
              have hBw : Below w.heap.size w wr := HB0.out.trans (hB.out.mono HB0.out.size)
              replace c1 := (hBw.cell (p := ⟨bb, oo + k * 2, none⟩) hlt).trans c1
              replace c2 := (hBw.cell (p := ⟨bb, oo + k * 2 + 1, none⟩) hlt).trans c2
              have i2 : (k : Int) < (l.length : Int) := by omega
              have CP := Lib.hid (putH x s _ _ hI.out hpl rfl hpt.symm)
              have HBW := Lib.hid hBw
              clear hcell hxs hpt hBw
              by_cases hs : s.size ≤ 30
              · go_wp2_with (go_at_call 13; (with_reducible refine CP.out.mono ?_); rintro e w2 ⟨rfl, O', hI', hV'⟩)
                go_roundw
                case rel => exact ⟨k + 1, O', by omega, by go_num, Lib.hid hI', Lib.hid (hV'.above hO.out hsz), Lib.hid (hB.out.trans (hV'.below hO.out hsz))⟩
                case measure => simp [intOf]; omega
              · go_wp2_with (go_at_call 8; (with_reducible refine (awake_any _).mono ?_); rintro e w2 ⟨rfl, hB2⟩)
                go_ret
                exact ⟨rfl, Below.next HBW.out hB2⟩
          · obtain rfl : k = l.length := by omega
            rw [List.take_length] at hI hpl
            obtain ⟨M, hM⟩ : ∃ M, puts l = M := ⟨_, rfl⟩
            have hsor : Sor M := by rw [← hM]; exact (puts_spec l).1
            rw [hM] at hI hpl
            clear hM
            have hbl : ∀ x y, (btw x y M).length ≤ 1000 := fun x y => Nat.le_trans (List.length_filter_le _ _) hpl
            have CBT := Lib.hid (fun (W : World) (x y : Int) (h : Below wr.heap.size wr W) => btwH x y (hI.out.below h) hpl)
            have SLB := Lib.hid (show ∀ W, Below wr.heap.size wr W → W.cell? ⟨w.heap.size, 0, none⟩ = some (.int .i64 a) ∧ W.cell? ⟨w.heap.size, 1, none⟩ = some (.int .i64 b) ∧ W.cell? ⟨w.heap.size, 2, none⟩ = some (.int .i64 c) from fun W hW =>
              ⟨((hB.out.trans (hW.mono hsz)).cell (p := ⟨w.heap.size, 0, none⟩) z0).trans HD.out.1, ((hB.out.trans (hW.mono hsz)).cell (p := ⟨w.heap.size, 1, none⟩) z0).trans HD.out.2.1, ((hB.out.trans (hW.mono hsz)).cell (p := ⟨w.heap.size, 2, none⟩) z0).trans HD.out.2.2⟩)
            obtain ⟨d0, d1, d2⟩ := SLB.out wr (Below.refl _ _)
            have HBL := Lib.hid hbl
            have HSR := Lib.hid hsor
            have HPL := Lib.hid hpl
            clear hbl hsor hpl hg
            go_wp2_with (first
              | (go_at_call 20; (with_reducible refine (CBT.out _ a b (by (repeat' (first | assumption | exact Below.refl _ _ | apply Below.next_alloc | apply Below.drew | (apply Below.next; rotate_left; assumption))))).mono ?_); rintro e y1 ⟨u1, rfl, ho1, hb1⟩; have C1 := Lib.hid (back_any ho1.ents (HBL.out a b)); have HY1 := Lib.hid (show Below wr.heap.size wr y1 from by (repeat' (first | assumption | exact Below.refl _ _ | apply Below.next_alloc | apply Below.drew | (apply Below.next; rotate_left; assumption)))); clear ho1 d0 d1 d2)
              | (go_at_call 19; (with_reducible refine C1.out.mono ?_); rintro e y2 ⟨v7, rfl, ho2, hb2⟩; have HY2 := Lib.hid (show Below wr.heap.size wr y2 from by (repeat' (first | assumption | exact Below.refl _ _ | apply Below.next_alloc | apply Below.drew | (apply Below.next; rotate_left; assumption)))); obtain ⟨d0, d1, d2⟩ := SLB.out y2 HY2.out; have O2 := Lib.hid ho2; clear C1 ho2)
              | (go_at_call 20; (with_reducible refine (CBT.out _ b c (by (repeat' (first | assumption | exact Below.refl _ _ | apply Below.next_alloc | apply Below.drew | (apply Below.next; rotate_left; assumption))))).mono ?_); rintro e y3 ⟨u3, rfl, ho3, hb3⟩; have C3 := Lib.hid (back_any ho3.ents (HBL.out b c)); have HY3 := Lib.hid (show Below wr.heap.size wr y3 from by (repeat' (first | assumption | exact Below.refl _ _ | apply Below.next_alloc | apply Below.drew | (apply Below.next; rotate_left; assumption)))); clear ho3 d0 d1 d2)
              | (go_at_call 19; (with_reducible refine C3.out.mono ?_); rintro e z ⟨v8, rfl, ho4, hb4⟩; have HYZ := Lib.hid (show Below wr.heap.size wr z from by (repeat' (first | assumption | exact Below.refl _ _ | apply Below.next_alloc | apply Below.drew | (apply Below.next; rotate_left; assumption)))); have O4 := Lib.hid ho4; clear C3 ho4))
            have hz21 := hb3.size
            have hz4 := hb4.size
            have hz2 := hb2.size
            have hz1 := HY1.out.size
            have O7 := Lib.hid (O2.out.below (Below.next hb3 hb4))
            have hr7 : ∀ k, v7.ownBlock = some k → y1.heap.size ≤ k ∧ k < y2.heap.size := O2.out.blk
            have E8 := Lib.hid O4.out.ents
            have hHz := Lib.hid (hI.out.below HYZ.out)
            obtain ⟨d0, d1, d2⟩ := SLB.out z HYZ.out
            have hlw := hI.out.lt
            have hrO : ∀ j, O j → some j ≠ v7.ownBlock := fun j hj e => by have := hlw j hj; have := (hr7 j e.symm).1; omega
            have zc : w.heap.size < z.heap.size := by omega
            have hrb : some w.heap.size ≠ v7.ownBlock := fun e => by have := (hr7 _ e.symm).1; omega
            have SL := Lib.hid (show ∀ W, GR v7.ownBlock z W → W.cell? ⟨w.heap.size, 0, none⟩ = some (.int .i64 a) ∧ W.cell? ⟨w.heap.size, 2, none⟩ = some (.int .i64 c) from fun W hW =>
              ⟨(World.cell?_of_block (w := z) (hW.block _ zc hrb)).trans d0, (World.cell?_of_block (w := z) (hW.block _ zc hrb)).trans d2⟩)
            have hnew : ∀ (W : World) (B : Nat) (u : Value) (T : TypeId) (m : List E), OwnR T W B u m → z.heap.size ≤ B → ∀ j, u.ownBlock = some j → some j ≠ v7.ownBlock := fun W B u T m ho hB j hj e => by
              have := (ho.blk j hj).1
              have := (hr7 j e.symm).2
              omega
            have CW := Lib.hid (show ∀ W, GR v7.ownBlock z W → Calls Try.prog 20 #[.pointer (some ⟨p, 0, none⟩), .int .i64 a, .int .i64 c] W fun e y' => ∃ u, e = .returned u ∧ Ents y' u (btw a c M) ∧ (∀ j, u.ownBlock = some j → some j ≠ v7.ownBlock) ∧ GR v7.ownBlock W y' ∧ Below W.heap.size W y' from fun W h =>
              (btwH a c (h.has hHz.out hrO) HPL.out).mono fun _ _ ⟨u, g1, g2, g3⟩ => ⟨u, g1, g2.ents, hnew _ _ _ _ _ g2 h.size, GR.of_below g3, g3⟩)
            have CK := Lib.hid (show ∀ W u m, Ents W u m → m.length ≤ 1000 → GR v7.ownBlock z W → Calls Try.prog 19 #[u] W fun e y' => ∃ u', e = .returned u' ∧ Ents y' u' m ∧ (∀ j, u'.ownBlock = some j → some j ≠ v7.ownBlock) ∧ GR v7.ownBlock W y' ∧ Below W.heap.size W y' from fun W u m he hm h =>
              (back_any he hm).mono fun _ _ ⟨u', g1, g2, g3⟩ => ⟨u', g1, g2.ents, hnew _ _ _ _ _ g2 h.size, GR.of_below g3, g3⟩)
            have CS := Lib.hid (show ∀ W u u', Ents W u (btw a b M ++ btw b c M) → Ents W u' (btw a c M) → Calls Try.prog 18 #[u, u'] W fun e y' => e = .returned (.bool true) ∧ Below W.heap.size W y' from fun W u u' he he' => by
              have hsm : sameE (btw a b M ++ btw b c M) (btw a c M) = true := decide_eq_true (btw_parts HSR.out h1 h2)
              have := rsame_any he he' (by have := HBL.out a b; have := HBL.out b c; rw [List.length_append]; omega) (by have := HBL.out a c; omega)
              rw [hsm] at this
              exact this)
            have HBZ := Lib.hid (HB0.out.trans ((hB.out.trans (HYZ.out.mono hsz)).mono HB0.out.size))
            have HR7 := Lib.hid hr7
            have hyz : y1.heap.size ≤ z.heap.size := by omega
            have hwy : w.heap.size ≤ y1.heap.size := by omega
            clear d0 d1 d2 hnew hrb hrO hlw hHz hr7 hz1 hz2 hz4 hz21 hb1 hb2 hb3 hb4 h1 h2
            go_region_held3 (fun w' => w'.cell? ⟨w.heap.size, 0, none⟩ = some (.int .i64 a) ∧ w'.cell? ⟨w.heap.size, 2, none⟩ = some (.int .i64 c)) (first | ((with_reducible refine SL.out _ ?_); (with_reducible (repeat' (first | assumption | exact GR.refl _ _ | apply GR.alloc | apply GR.drew | apply GR.drewN | (apply GR.trans; rotate_left; assumption)))); done) | go_keep)
              (first
                | (refine step_push_list infoR Try.underlying27 (by rfl) (.tmp 64) (.tmp 65) (by rfl) y1.heap.size v7 (btw a b M) (btw b c M) (by rfl) (O7.out.below (by (with_reducible (repeat' (first | assumption | exact Below.refl _ _ | apply Below.next_alloc | apply Below.drew | (apply Below.next; rotate_left; assumption)))))) v8 (by rfl) (E8.out.below (by (with_reducible (repeat' (first | assumption | exact Below.refl _ _ | apply Below.next_alloc | apply Below.drew | (apply Below.next; rotate_left; assumption)))))) (by have := HBL.out a b; have := HBL.out b c; omega) (Nat.le_trans hyz (show Below z.heap.size z _ from by (with_reducible (repeat' (first | assumption | exact Below.refl _ _ | apply Below.next_alloc | apply Below.drew | (apply Below.next; rotate_left; assumption))))).size) ?_; intro v9 y5 ho9 hg9)
                | (go_at_call 20; (with_reducible refine (CW.out _ (by (repeat' (first | assumption | exact GR.refl _ _ | apply GR.alloc | apply GR.drew | apply GR.drewN | (apply GR.trans; rotate_left; assumption))))).mono ?_); rintro e y6 ⟨u6, rfl, he6, hn6, hg6, hb6⟩)
                | (go_at_call 19; (with_reducible refine (CK.out _ u6 (btw a c M) (GR.ents he6 (by (repeat' (first | assumption | exact GR.refl _ _ | apply GR.alloc | apply GR.drew | apply GR.drewN | (apply GR.trans; rotate_left; assumption)))) hn6) (HBL.out a c) (by (repeat' (first | assumption | exact GR.refl _ _ | apply GR.alloc | apply GR.drew | apply GR.drewN | (apply GR.trans; rotate_left; assumption))))).mono ?_); rintro e y7 ⟨u7, rfl, he7, hn7, hg7, hb7⟩)
                | (go_at_call 18; (with_reducible refine (CS.out _ v9 u7 (ho9.ents.below (by (with_reducible (repeat' (first | assumption | exact Below.refl _ _ | apply Below.next_alloc | apply Below.drew | (apply Below.next; rotate_left; assumption)))))) (GR.ents he7 (by (repeat' (first | assumption | exact GR.refl _ _ | apply GR.alloc | apply GR.drew | apply GR.drewN | (apply GR.trans; rotate_left; assumption)))) hn7)).mono ?_); rintro e y8 ⟨rfl, hb8⟩; have hg8 := GR.of_below (r := v7.ownBlock) hb8)
                | (go_at_call 8; (with_reducible refine (awake_any _).mono ?_); rintro e y9 ⟨rfl, hb9⟩; have hg9' := GR.of_below (r := v7.ownBlock) hb9))
            go_wp2
            go_ret
            exact ⟨rfl, HBZ.out.trans ((show GR v7.ownBlock z _ from by (repeat' (first | assumption | exact GR.refl _ _ | apply GR.alloc | apply GR.drew | apply GR.drewN | (apply GR.trans; rotate_left; assumption)))).below (HBZ.out.size) fun k hk => by have := (HR7.out k hk).1; omega)⟩
      · go_enter Try.func6, Try.ntmps6
        go_wp2_with (go_at_call 8; (with_reducible refine (awake_any _).mono ?_); rintro e w1 ⟨rfl, hB1⟩)
        go_ret
        exact ⟨rfl, by (repeat' (first | assumption | exact Below.refl _ _ | apply Below.next_alloc | apply Below.drew | (apply Below.next; rotate_left; assumption)))⟩
    · go_enter Try.func6, Try.ntmps6
      go_wp2_with (go_at_call 8; (with_reducible refine (awake_any _).mono ?_); rintro e w1 ⟨rfl, hB1⟩)
      go_ret
      exact ⟨rfl, by (repeat' (first | assumption | exact Below.refl _ _ | apply Below.next_alloc | apply Below.drew | (apply Below.next; rotate_left; assumption)))⟩
  · go_enter Try.func6, Try.ntmps6
    go_wp2_with (go_at_call 8; (with_reducible refine (awake_any _).mono ?_); rintro e w1 ⟨rfl, hB1⟩)
    go_ret
    exact ⟨rfl, by (repeat' (first | assumption | exact Below.refl _ _ | apply Below.next_alloc | apply Below.drew | (apply Below.next; rotate_left; assumption)))⟩
end Go.Proofs.Ytncneoggnoiknaa.Du
