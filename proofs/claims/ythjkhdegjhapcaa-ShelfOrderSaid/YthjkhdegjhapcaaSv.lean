/- The walk through errandlaw30.ShelfOrder. -/
import Derived.Test.YthjkhdegjhapcaaSu
namespace Go.Proofs.Ythjkhdegjhapcaa.Sa
open Go.RowKit Sp
theorem made_rev {v : Value} {es : List Ent} {w : World} (hE : Ents w v es.reverse) (hu : Unlike es) (hn : es.length ≤ 60) :
    Calls Try.prog 9 #[v] w (Gives2 (mk es) (mk es) w) := by
  have := made_any hE (by rw [List.length_reverse]; exact hn)
  rwa [mk_reverse hu] at this
theorem ents_pos {w : World} {v : Value} {es : List Ent} {n : Nat} (h : Ents w v es) (hn : es.length = n) (h0 : 0 < es.length) : ∃ b o cap, v = .slice (some ⟨b, o, none⟩) n cap ∧ b < w.heap.size ∧ n ≤ cap ∧
    Hid (∀ h (hh : h < es.length), w.cell? ⟨b, o + h * 2, none⟩ = some (.string es[h].1) ∧ w.cell? ⟨b, o + h * 2 + 1, none⟩ = some (.int .i64 es[h].2)) := by
  subst hn
  rcases h with ⟨rfl, _⟩ | ⟨_, b, o, cap, rfl, h1, h2, h3⟩
  · exact absurd h0 (by simp)
  · exact ⟨b, o, cap, rfl, h1, h2, Lib.hid h3⟩
theorem made0 {v : Value} {w : World} (hE : Ents w v []) : Calls Try.prog 9 #[v] w (Gives2 [] [] w) := made_any hE (by decide)
theorem find0 {v : Value} {key : ByteArray} {w : World} (hE : Ents w v []) : Calls Try.prog 18 #[v, .string key] w fun e w' => e = .returned (.tuple #[.int .i64 0, .bool false]) ∧ Below w.heap.size w w' :=
  find_any key hE List.Pairwise.nil (by decide)
set_option maxHeartbeats 1000000 in
set_option maxRecDepth 100000 in
theorem order_any {v : Value} {es : List Ent} {key : ByteArray} {w : World} (hE : Ents w v es) :
    Calls Try.prog 6 #[v, .string key] w fun e w' => e = .returned (.bool true) ∧ Below w.heap.size w w' := by
  have F := Lib.hid (few_any (w := w) hE)
  cases hf : few es
  · rw [hf] at F
    go_enter Try.func6, Try.ntmps6
    go_wp2_with (first
      | (go_at_call 7; refine (F.out).mono ?_; rintro e w' ⟨rfl, rfl⟩)
      | (go_at_call 8; refine (awake_any _).mono ?_; rintro e w1 ⟨rfl, hB1⟩))
    go_ret
    exact ⟨rfl, by (repeat' (first | assumption | exact Below.refl _ _ | apply Below.next_alloc | apply Below.drew | (apply Below.next; rotate_left; assumption)))⟩
  · rw [hf] at F
    have hn := few_len hf
    clear hf
    by_cases hk : (60 : Int) < (key.size : Int)
    · go_enter Try.func6, Try.ntmps6
      go_wp2_with (first
        | (go_at_call 7; refine (F.out).mono ?_; rintro e w' ⟨rfl, rfl⟩)
        | (go_at_call 8; refine (awake_any _).mono ?_; rintro e w1 ⟨rfl, hB1⟩))
      go_ret
      exact ⟨rfl, by (repeat' (first | assumption | exact Below.refl _ _ | apply Below.next_alloc | apply Below.drew | (apply Below.next; rotate_left; assumption)))⟩
    · obtain ⟨i0, hi, hz0, hz1, hz2⟩ := info_parts infoR
      have hE' := hE
      rcases hE' with ⟨rfl, a, cap, rfl, _⟩ | ⟨h0, b, o, cap, rfl, hlt, hcap, hcell⟩
      · go_enter Try.func6, Try.ntmps6
        go_wp2_with (first | (go_at_call 7; refine (F.out).mono ?_; rintro e w' ⟨rfl, rfl⟩))
        refine wp_loop_rounds 1 ?_
        rw [rounds_succ]
        have hE0 : Ents w (.slice a 0 cap) [] := hE
        have hN0 : Ents w (.slice none 0 0) [] := .inl ⟨rfl, _, _, rfl, fun _ => rfl⟩
        go_wp2_with (first
          | (go_at_call 9; refine (made0 (by (apply Ents.below; (with_reducible assumption); (repeat' (first | assumption | exact Below.refl _ _ | apply Below.next_alloc | apply Below.drew | (apply Below.next; rotate_left; assumption)))))).mono ?_; rintro e w1 ⟨va, ub, rfl, hA, hR, hB1⟩; obtain ⟨pa, ca, rfl, _⟩ := len_of hA; rw [List.length_nil] at hA)
          | (go_at_call 18; refine (find0 (by (apply Ents.below; (with_reducible assumption); (repeat' (first | assumption | exact Below.refl _ _ | apply Below.next_alloc | apply Below.drew | (apply Below.next; rotate_left; assumption)))))).mono ?_; rintro e w2 ⟨rfl, hB2⟩)
          | (go_at_call 12; refine (back_g (by (apply Ents.below; (with_reducible assumption); (repeat' (first | assumption | exact Below.refl _ _ | apply Below.next_alloc | apply Below.drew | (apply Below.next; rotate_left; assumption))))) (by decide)).mono ?_; rintro e w5 ⟨vb, rfl, hV, hB5⟩)
          | (go_at_call 11; refine (same_g (by (apply Ents.below; (with_reducible assumption); (repeat' (first | assumption | exact Below.refl _ _ | apply Below.next_alloc | apply Below.drew | (apply Below.next; rotate_left; assumption))))) (by (apply Ents.below; (with_reducible assumption); (repeat' (first | assumption | exact Below.refl _ _ | apply Below.next_alloc | apply Below.drew | (apply Below.next; rotate_left; assumption))))) (by decide)).mono ?_; rintro e w6 ⟨rfl, hB7⟩)
          | (go_at_call 8; refine (awake_any _).mono ?_; rintro e w10 ⟨rfl, hB15⟩))
        go_ret
        exact ⟨rfl, by (repeat' (first | assumption | exact Below.refl _ _ | apply Below.next_alloc | apply Below.drew | (apply Below.next; rotate_left; assumption)))⟩
      · have HC := Lib.hid hcell
        clear hcell
        go_enter Try.func6, Try.ntmps6
        go_wp2_with (first | (go_at_call 7; refine (F.out).mono ?_; rintro e w' ⟨rfl, rfl⟩))
        have hEk := Lib.hid (fun (wr : World) (hb : Below w.heap.size w wr) => hE.below hb)
        clear hE
        go_loopw [5, 6] (fun u i wr => ∃ k : Nat, k ≤ es.length ∧ i = .int .i64 ((k : Int) - 1) ∧ wr.ownsRow w.heap.size 37 2 u (es.drop k).reverse.length (cellsOf (es.drop k).reverse) ∧ Below w.heap.size w wr ∧
          Hid (∀ x y (hx : x < es.length) (hy : y < es.length), x < y → k ≤ y → es[x].1 ≠ es[y].1)) (fun _ i _ => (intOf i + 1).toNat)
        case atStart =>
          refine ⟨es.length, Nat.le_refl _, by go_num, ?_, Below.refl _ _, Lib.hid fun x y hx hy h1 h2 => by omega⟩
          rw [List.drop_of_length_le (Nat.le_refl _)]
          exact World.ownsRow_nil _ _ _ _
        case round =>
          obtain ⟨k, k1, hki, hown, hB, hU⟩ := hrel
          rcases k with _ | j
          · obtain rfl := hki.trans (show Value.int .i64 (((0 : Nat) : Int) - 1) = .int .i64 (-1) from rfl)
            have hun : Unlike es := List.pairwise_iff_getElem.mpr fun x y hx hy hxy => hU.out x y hx hy hxy (Nat.zero_le _)
            rw [List.drop_zero] at hown
            have hM := Ents_of_owns hown
            have hEr := hEk.out wr hB
            have MA := Lib.hid (fun (W : World) (hb : Below wr.heap.size wr W) => made_any (hEr.below hb) hn)
            have MB := Lib.hid (fun (W : World) (hb : Below wr.heap.size wr W) => made_rev (hM.below hb) hun hn)
            have hlen := mk_len_unlike hun
            have hcl : cnt (mk es) key ≤ (mk es).length := cnt_le _ _
            have hsp := Lib.hid (cnt_spec (mk_sorted es) key)
            have hhs := has_spec (mk_sorted es) key
            have FG := Lib.hid (fun (W : World) (v : Value) (h : Ents W v (mk es)) => find_g (t := key) h (mk_sorted es) (by omega))
            clear hEr hM hown hEk
            generalize mk es = ms at *
            generalize cnt ms key = c at *
            generalize has ms key = u at *
            have hpos : 0 < ms.length := by omega
            have i8 : (c : Int) ≤ (es.length : Int) := by omega
            have hm60 : ms.length ≤ 60 := by omega
            have hle2 : ms.length = es.length := hlen
            clear hlen
            have hle2 := Lib.hid hle2
            by_cases hz : 0 < c
            · have l1 : Op.bytesLess ms[c - 1].1.toList key.toList = true := by
                have := hsp.out (c - 1) (by omega)
                rw [decide_eq_true (show c - 1 < c by omega)] at this; exact this
              have i0 : (0 : Int) < (c : Int) := by omega
              have i4 : (0 : Int) ≤ (c : Int) - 1 := by omega
              have i5 : (c : Int) - 1 < (es.length : Int) := by have := hle2.out; omega
              have i6 : IntKind.i64.wrap ((c : Int) - 1) = (c : Int) - 1 := IntWalk.i64_in _ (by omega)
              by_cases hl : c < ms.length
              · have l2 : Op.bytesLess ms[c].1.toList key.toList = false := by
                  have := hsp.out c hl
                  rw [decide_eq_false (show ¬ c < c by omega)] at this; exact this
                have hu : (ms[c].1.toList == key.toList) = u := by
                  rw [hhs, decide_eq_true hl, Bool.true_and, eq_iff, List.getD_eq_getElem?_getD, List.getElem?_eq_getElem hl]; rfl
                clear hhs
                have i7 : (c : Int) < (es.length : Int) := by have := hle2.out; omega
                cases u
                · skip
                  go_wp2_with (first
                    | (go_at_call 9; refine (MA.out _ (by (repeat' (first | assumption | exact Below.refl _ _ | apply Below.next_alloc | apply Below.drew | (apply Below.next; rotate_left; assumption))))).mono ?_; rintro e w1 ⟨va, ub, rfl, hA, hR, hB1⟩; clear MA; obtain ⟨b1, o1, cp1, rfl, hlt1, hcp1, HC1⟩ := ents_pos hA hle2.out hpos)
                    | (go_at_call 9; refine (MB.out _ (by (repeat' (first | assumption | exact Below.refl _ _ | apply Below.next_alloc | apply Below.drew | (apply Below.next; rotate_left; assumption))))).mono ?_; rintro e w2 ⟨vc, ud, rfl, hA2, hR2, hB2⟩)
                    | (go_at_call 18; go_loud (refine (FG.out _ _ (hA.below hB2)).mono ?_; rintro e w3 ⟨rfl, hB3⟩; have hBc := hB2.trans (hB3.mono hB2.size); have d1 := (hBc.cell (p := ⟨b1, o1 + (c - 1) * 2, none⟩) hlt1).trans (HC1.out (c - 1) (by omega)).1; have d2 := (hBc.cell (p := ⟨b1, o1 + c * 2, none⟩) hlt1).trans (HC1.out c (by omega)).1; skip))
                    | (go_at_call 12; refine (back_g (by (apply Ents.below; (with_reducible assumption); (repeat' (first | assumption | exact Below.refl _ _ | apply Below.next_alloc | apply Below.drew | (apply Below.next; rotate_left; assumption))))) (by omega)).mono ?_; rintro e w5 ⟨vb, rfl, hV, hB5⟩)
                    | (go_at_call 11; refine (same_g (by (apply Ents.below; (with_reducible assumption); (repeat' (first | assumption | exact Below.refl _ _ | apply Below.next_alloc | apply Below.drew | (apply Below.next; rotate_left; assumption))))) (by (apply Ents.below; (with_reducible assumption); (repeat' (first | assumption | exact Below.refl _ _ | apply Below.next_alloc | apply Below.drew | (apply Below.next; rotate_left; assumption))))) (by omega)).mono ?_; rintro e w6 ⟨rfl, hB7⟩)
                    | (go_at_call 8; refine (awake_any _).mono ?_; rintro e w10 ⟨rfl, hB15⟩))
                  go_ret
                  exact ⟨rfl, hB.trans (Below.mono (B := wr.heap.size) (by (repeat' (first | assumption | exact Below.refl _ _ | apply Below.next_alloc | apply Below.drew | (apply Below.next; rotate_left; assumption)))) hB.size)⟩
                · skip
                  go_wp2_with (first
                    | (go_at_call 9; refine (MA.out _ (by (repeat' (first | assumption | exact Below.refl _ _ | apply Below.next_alloc | apply Below.drew | (apply Below.next; rotate_left; assumption))))).mono ?_; rintro e w1 ⟨va, ub, rfl, hA, hR, hB1⟩; clear MA; obtain ⟨b1, o1, cp1, rfl, hlt1, hcp1, HC1⟩ := ents_pos hA hle2.out hpos)
                    | (go_at_call 9; refine (MB.out _ (by (repeat' (first | assumption | exact Below.refl _ _ | apply Below.next_alloc | apply Below.drew | (apply Below.next; rotate_left; assumption))))).mono ?_; rintro e w2 ⟨vc, ud, rfl, hA2, hR2, hB2⟩)
                    | (go_at_call 18; go_loud (refine (FG.out _ _ (hA.below hB2)).mono ?_; rintro e w3 ⟨rfl, hB3⟩; have hBc := hB2.trans (hB3.mono hB2.size); have d1 := (hBc.cell (p := ⟨b1, o1 + (c - 1) * 2, none⟩) hlt1).trans (HC1.out (c - 1) (by omega)).1; have d2 := (hBc.cell (p := ⟨b1, o1 + c * 2, none⟩) hlt1).trans (HC1.out c (by omega)).1; skip))
                    | (go_at_call 12; refine (back_g (by (apply Ents.below; (with_reducible assumption); (repeat' (first | assumption | exact Below.refl _ _ | apply Below.next_alloc | apply Below.drew | (apply Below.next; rotate_left; assumption))))) (by omega)).mono ?_; rintro e w5 ⟨vb, rfl, hV, hB5⟩)
                    | (go_at_call 11; refine (same_g (by (apply Ents.below; (with_reducible assumption); (repeat' (first | assumption | exact Below.refl _ _ | apply Below.next_alloc | apply Below.drew | (apply Below.next; rotate_left; assumption))))) (by (apply Ents.below; (with_reducible assumption); (repeat' (first | assumption | exact Below.refl _ _ | apply Below.next_alloc | apply Below.drew | (apply Below.next; rotate_left; assumption))))) (by omega)).mono ?_; rintro e w6 ⟨rfl, hB7⟩)
                    | (go_at_call 8; refine (awake_any _).mono ?_; rintro e w10 ⟨rfl, hB15⟩))
                  go_ret
                  exact ⟨rfl, hB.trans (Below.mono (B := wr.heap.size) (by (repeat' (first | assumption | exact Below.refl _ _ | apply Below.next_alloc | apply Below.drew | (apply Below.next; rotate_left; assumption)))) hB.size)⟩
              · have hu : u = false := by rw [hhs, decide_eq_false hl, Bool.false_and]
                subst hu
                clear hhs
                have i7 : ¬ (c : Int) < (es.length : Int) := by have := hle2.out; omega
                go_wp2_with (first
                  | (go_at_call 9; refine (MA.out _ (by (repeat' (first | assumption | exact Below.refl _ _ | apply Below.next_alloc | apply Below.drew | (apply Below.next; rotate_left; assumption))))).mono ?_; rintro e w1 ⟨va, ub, rfl, hA, hR, hB1⟩; clear MA; obtain ⟨b1, o1, cp1, rfl, hlt1, hcp1, HC1⟩ := ents_pos hA hle2.out hpos)
                  | (go_at_call 9; refine (MB.out _ (by (repeat' (first | assumption | exact Below.refl _ _ | apply Below.next_alloc | apply Below.drew | (apply Below.next; rotate_left; assumption))))).mono ?_; rintro e w2 ⟨vc, ud, rfl, hA2, hR2, hB2⟩)
                  | (go_at_call 18; go_loud (refine (FG.out _ _ (hA.below hB2)).mono ?_; rintro e w3 ⟨rfl, hB3⟩; have hBc := hB2.trans (hB3.mono hB2.size); have d1 := (hBc.cell (p := ⟨b1, o1 + (c - 1) * 2, none⟩) hlt1).trans (HC1.out (c - 1) (by omega)).1; skip))
                  | (go_at_call 12; refine (back_g (by (apply Ents.below; (with_reducible assumption); (repeat' (first | assumption | exact Below.refl _ _ | apply Below.next_alloc | apply Below.drew | (apply Below.next; rotate_left; assumption))))) (by omega)).mono ?_; rintro e w5 ⟨vb, rfl, hV, hB5⟩)
                  | (go_at_call 11; refine (same_g (by (apply Ents.below; (with_reducible assumption); (repeat' (first | assumption | exact Below.refl _ _ | apply Below.next_alloc | apply Below.drew | (apply Below.next; rotate_left; assumption))))) (by (apply Ents.below; (with_reducible assumption); (repeat' (first | assumption | exact Below.refl _ _ | apply Below.next_alloc | apply Below.drew | (apply Below.next; rotate_left; assumption))))) (by omega)).mono ?_; rintro e w6 ⟨rfl, hB7⟩)
                  | (go_at_call 8; refine (awake_any _).mono ?_; rintro e w10 ⟨rfl, hB15⟩))
                go_ret
                exact ⟨rfl, hB.trans (Below.mono (B := wr.heap.size) (by (repeat' (first | assumption | exact Below.refl _ _ | apply Below.next_alloc | apply Below.drew | (apply Below.next; rotate_left; assumption)))) hB.size)⟩
            · obtain rfl : c = 0 := by omega
              have l2 : Op.bytesLess ms[0].1.toList key.toList = false := by
                have := hsp.out 0 hpos
                rw [decide_eq_false (show ¬ 0 < 0 by omega)] at this; exact this
              have hu : (ms[0].1.toList == key.toList) = u := by
                rw [hhs, decide_eq_true hpos, Bool.true_and, eq_iff, List.getD_eq_getElem?_getD, List.getElem?_eq_getElem hpos]; rfl
              clear hhs
              have i7 : (0 : Int) < (es.length : Int) := by omega
              cases u
              · skip
                go_wp2_with (first
                  | (go_at_call 9; refine (MA.out _ (by (repeat' (first | assumption | exact Below.refl _ _ | apply Below.next_alloc | apply Below.drew | (apply Below.next; rotate_left; assumption))))).mono ?_; rintro e w1 ⟨va, ub, rfl, hA, hR, hB1⟩; clear MA; obtain ⟨b1, o1, cp1, rfl, hlt1, hcp1, HC1⟩ := ents_pos hA hle2.out hpos)
                  | (go_at_call 9; refine (MB.out _ (by (repeat' (first | assumption | exact Below.refl _ _ | apply Below.next_alloc | apply Below.drew | (apply Below.next; rotate_left; assumption))))).mono ?_; rintro e w2 ⟨vc, ud, rfl, hA2, hR2, hB2⟩)
                  | (go_at_call 18; go_loud (refine (FG.out _ _ (hA.below hB2)).mono ?_; rintro e w3 ⟨rfl, hB3⟩; have hBc := hB2.trans (hB3.mono hB2.size); have d2 := (hBc.cell (p := ⟨b1, o1, none⟩) hlt1).trans (by simpa using (HC1.out 0 hpos).1); skip))
                  | (go_at_call 12; refine (back_g (by (apply Ents.below; (with_reducible assumption); (repeat' (first | assumption | exact Below.refl _ _ | apply Below.next_alloc | apply Below.drew | (apply Below.next; rotate_left; assumption))))) (by omega)).mono ?_; rintro e w5 ⟨vb, rfl, hV, hB5⟩)
                  | (go_at_call 11; refine (same_g (by (apply Ents.below; (with_reducible assumption); (repeat' (first | assumption | exact Below.refl _ _ | apply Below.next_alloc | apply Below.drew | (apply Below.next; rotate_left; assumption))))) (by (apply Ents.below; (with_reducible assumption); (repeat' (first | assumption | exact Below.refl _ _ | apply Below.next_alloc | apply Below.drew | (apply Below.next; rotate_left; assumption))))) (by omega)).mono ?_; rintro e w6 ⟨rfl, hB7⟩)
                  | (go_at_call 8; refine (awake_any _).mono ?_; rintro e w10 ⟨rfl, hB15⟩))
                go_ret
                exact ⟨rfl, hB.trans (Below.mono (B := wr.heap.size) (by (repeat' (first | assumption | exact Below.refl _ _ | apply Below.next_alloc | apply Below.drew | (apply Below.next; rotate_left; assumption)))) hB.size)⟩
              · skip
                go_wp2_with (first
                  | (go_at_call 9; refine (MA.out _ (by (repeat' (first | assumption | exact Below.refl _ _ | apply Below.next_alloc | apply Below.drew | (apply Below.next; rotate_left; assumption))))).mono ?_; rintro e w1 ⟨va, ub, rfl, hA, hR, hB1⟩; clear MA; obtain ⟨b1, o1, cp1, rfl, hlt1, hcp1, HC1⟩ := ents_pos hA hle2.out hpos)
                  | (go_at_call 9; refine (MB.out _ (by (repeat' (first | assumption | exact Below.refl _ _ | apply Below.next_alloc | apply Below.drew | (apply Below.next; rotate_left; assumption))))).mono ?_; rintro e w2 ⟨vc, ud, rfl, hA2, hR2, hB2⟩)
                  | (go_at_call 18; go_loud (refine (FG.out _ _ (hA.below hB2)).mono ?_; rintro e w3 ⟨rfl, hB3⟩; have hBc := hB2.trans (hB3.mono hB2.size); have d2 := (hBc.cell (p := ⟨b1, o1, none⟩) hlt1).trans (by simpa using (HC1.out 0 hpos).1); skip))
                  | (go_at_call 12; refine (back_g (by (apply Ents.below; (with_reducible assumption); (repeat' (first | assumption | exact Below.refl _ _ | apply Below.next_alloc | apply Below.drew | (apply Below.next; rotate_left; assumption))))) (by omega)).mono ?_; rintro e w5 ⟨vb, rfl, hV, hB5⟩)
                  | (go_at_call 11; refine (same_g (by (apply Ents.below; (with_reducible assumption); (repeat' (first | assumption | exact Below.refl _ _ | apply Below.next_alloc | apply Below.drew | (apply Below.next; rotate_left; assumption))))) (by (apply Ents.below; (with_reducible assumption); (repeat' (first | assumption | exact Below.refl _ _ | apply Below.next_alloc | apply Below.drew | (apply Below.next; rotate_left; assumption))))) (by omega)).mono ?_; rintro e w6 ⟨rfl, hB7⟩)
                  | (go_at_call 8; refine (awake_any _).mono ?_; rintro e w10 ⟨rfl, hB15⟩))
                go_ret
                exact ⟨rfl, hB.trans (Below.mono (B := wr.heap.size) (by (repeat' (first | assumption | exact Below.refl _ _ | apply Below.next_alloc | apply Below.drew | (apply Below.next; rotate_left; assumption)))) hB.size)⟩
          · obtain rfl := hki.trans (show Value.int .i64 (((j + 1 : Nat) : Int) - 1) = .int .i64 (j : Int) by congr 1; omega)
            have hj : j < es.length := by omega
            have hs := Lib.hid (show (es.drop j).reverse = (es.drop (j + 1)).reverse ++ [es[j]] by rw [List.drop_eq_getElem_cons hj, List.reverse_cons])
            have hlen : (es.drop (j + 1)).reverse.length ≤ 60 := by rw [List.length_reverse, List.length_drop]; omega
            have c1 := (hB.cell (p := ⟨b, o + j * 2, none⟩) hlt).trans (HC.out j hj).1
            have c2 := (hB.cell (p := ⟨b, o + j * 2 + 1, none⟩) hlt).trans (HC.out j hj).2
            have hb1 := Lib.hid (show (es.drop (j + 1)).reverse.length + 1 ≤ maxLen by unfold maxLen; omega)
            have hb2 := Lib.hid (show ((es.drop (j + 1)).reverse.length + 1) * 24 ≤ 140737488355328 by omega)
            go_wp2_with (at_builtin; refine wpList_append_own _ rfl _ _ _ rfl w.heap.size 37 i0 _ 2 24 Try.underlying22 hi hz0 hz1 hz2 rfl (by decide) _ _ _ rfl (hown.alloc _) ⟨wr.heap.size, 0, none⟩ 1 1 [.string es[j].1, .int .i64 es[j].2] rfl rfl (World.news_of_block (cs := #[.string es[j].1, .int .i64 es[j].2]) (t := 37) (fr := (0, 0)) (heap_alloc_new wr _)) (by simp [Value.oneCell']) hb1.out hb2.out (by simp; have := hB.size; omega) ?_; intro v1 w1 hown1 hg1 _; have hB1 := (hB.alloc hB.size _).grown hg1 (by simp; have := hB.size; omega) (fun k hk => (hown.lt k hk).1))
            have hown2 := ownsRow_cast (n' := (es.drop j).reverse.length) (xs' := cellsOf (es.drop j).reverse) hown1 rfl (by rw [hs.out, List.length_append]; rfl) (by rw [hs.out, cellsOf_snoc])
            clear c1 c2 hown1 hown hB
            go_loopw [7] (fun q wq => ∃ n : Nat, n ≤ j ∧ q = .int .i64 n ∧ Hid (∀ x (hx : x < es.length), x < n → es[x].1 ≠ es[j].1) ∧ wq.ownsRow w.heap.size 37 2 v1 (es.drop j).reverse.length (cellsOf (es.drop j).reverse) ∧ Below w.heap.size w wq) (fun q _ => j - (intOf q).toNat)
            case atStart => exact ⟨0, by omega, rfl, Lib.hid fun x hx h => by omega, hown2, hB1⟩
            case round =>
              obtain ⟨n, n1, rfl, hno, hownd, hBd⟩ := hrel
              by_cases hnj : n < j
              · have hn' : n < es.length := by omega
                have c1 := (hBd.cell (p := ⟨b, o + j * 2, none⟩) hlt).trans (HC.out j hj).1
                have d1 := (hBd.cell (p := ⟨b, o + n * 2, none⟩) hlt).trans (HC.out n hn').1
                cases hbb : (es[n].1.toList == es[j].1.toList)
                · have hne : es[n].1 ≠ es[j].1 := by rw [eq_iff] at hbb; exact of_decide_eq_false hbb
                  have hne := Lib.hid hne
                  go_wp2
                  go_quiet (fail)
                  go_wp2
                  go_roundw
                  case rel => exact ⟨n + 1, by omega, by go_num, Lib.hid fun x hx h => by
                    by_cases hxn : x = n
                    · subst hxn; exact hne.out
                    · exact hno.out x hx (by omega), hownd, Base.below_drewN hBd _⟩
                  case measure => simp [intOf]; omega
                · go_wp2
                  go_quiet (fail)
                  go_wp2_with (first | (go_at_call 8; refine (awake_any _).mono ?_; rintro e w10 ⟨rfl, hB15⟩))
                  go_ret
                  exact ⟨rfl, (Base.below_drewN hBd _).trans (hB15.mono hBd.size)⟩
              · obtain rfl : n = j := by omega
                go_wp2
                go_roundw
                case rel => exact ⟨n, by omega, by go_num, hownd, hBd, Lib.hid fun x y hx hy h1 h2 => by
                  by_cases hyn : y = n
                  · subst hyn; exact hno.out x hx h1
                  · exact hU.out x y hx hy h1 (by omega)⟩
                case measure => simp [intOf]
end Go.Proofs.Ythjkhdegjhapcaa.Sa
